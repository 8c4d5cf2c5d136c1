/- A record is copied: CopyTexts 60, CopyName 34, CopyData 35, CopyRecord 10. -/
import Derived.Test.YthgnlbdolilklaaStq
import Derived.Deep.Cut
import Derived.Deep.CutRange
import Derived.Deep.RegionHeld3
namespace Go.Proofs.Ythgnlbdolilklaa
open Go Go.RowKit
def qCpR0 (p : String) : Oper := { dst := some 5, op := Op.buildSlice 32 0 #[], type := 32, pos := p, after := #[], guard := none }
def qCpR1 (p : String) : Oper := { dst := some 8, op := Op.call { callee := Callee.builtin Builtin.append, args := #[Operand.tmp 5, Operand.tmp 7], argTypes := #[32, 32] }, type := 32, pos := p, after := #[{ on := 0, ground := Ground.data }, { on := 2, ground := Ground.data }], guard := none }
def qCpR2 (p : String) : Oper := { dst := some 11, op := Op.call { callee := Callee.value (Operand.func 60), args := #[Operand.tmp 10], argTypes := #[25] }, type := 25, pos := p, after := #[{ on := 5, ground := Ground.data }, { on := 3, ground := Ground.chain }], guard := none }
def qCpR3 (p : String) : Oper := { dst := some 14, op := Op.call { callee := Callee.value (Operand.func 33), args := #[Operand.tmp 13], argTypes := #[33] }, type := 33, pos := p, after := #[{ on := 8, ground := Ground.data }, { on := 6, ground := Ground.chain }], guard := none }
def qCpR4 (p : String) : Oper := { dst := some 15, op := Op.build 35 #[(1, Operand.tmp 8), (2, Operand.tmp 11), (3, Operand.tmp 14)], type := 35, pos := p, after := #[{ on := 3, ground := Ground.data }, { on := 6, ground := Ground.data }, { on := 9, ground := Ground.data }], guard := none }
def qCpR5 (p : String) : Oper := { dst := some 3, op := Op.alloc 35, type := 0, pos := p, after := #[], guard := none }
def qCpR6 (p : String) : Oper := { dst := none, op := Op.store 35 (Operand.tmp 3) (Operand.tmp 15), type := 0, pos := p, after := #[{ on := 11, ground := Ground.data }, { on := 10, ground := Ground.data }, { on := 9, ground := Ground.chain }, { on := 0, ground := Ground.phase }, { on := 1, ground := Ground.phase }, { on := 2, ground := Ground.phase }, { on := 3, ground := Ground.phase }, { on := 4, ground := Ground.phase }, { on := 5, ground := Ground.phase }, { on := 6, ground := Ground.phase }, { on := 7, ground := Ground.phase }, { on := 8, ground := Ground.phase }, { on := 9, ground := Ground.phase }, { on := 10, ground := Ground.phase }, { on := 11, ground := Ground.phase }], guard := none }
def qCpR7 (p : String) : Oper := { dst := some 24, op := Op.load 31 (Operand.tmp 23), type := 31, pos := p, after := #[{ on := 0, ground := Ground.data }], guard := none }
def qCpR8 (p : String) : Oper := { dst := some 30, op := Op.call { callee := Callee.value (Operand.func 34), args := #[Operand.tmp 29], argTypes := #[26] }, type := 26, pos := p, after := #[{ on := 6, ground := Ground.data }], guard := none }
def qCpR9 (p : String) : Oper := { dst := some 31, op := Op.buildSlice 31 1 #[(0, Operand.tmp 30)], type := 31, pos := p, after := #[{ on := 7, ground := Ground.data }], guard := none }
def qCpR10 (p : String) : Oper := { dst := some 32, op := Op.call { callee := Callee.builtin Builtin.append, args := #[Operand.tmp 24, Operand.tmp 31], argTypes := #[31, 31] }, type := 31, pos := p, after := #[{ on := 1, ground := Ground.data }, { on := 8, ground := Ground.data }, { on := 7, ground := Ground.chain }], guard := none }
def qCpR11 (p : String) : Oper := { dst := some 33, op := Op.fieldAddr 35 (Operand.tmp 3) 0, type := 0, pos := p, after := #[{ on := 0, ground := Ground.phase }, { on := 1, ground := Ground.phase }, { on := 2, ground := Ground.phase }, { on := 3, ground := Ground.phase }, { on := 4, ground := Ground.phase }, { on := 5, ground := Ground.phase }, { on := 6, ground := Ground.phase }, { on := 7, ground := Ground.phase }, { on := 8, ground := Ground.phase }, { on := 9, ground := Ground.phase }], guard := none }
def qCpR12 (p : String) : Oper := { dst := none, op := Op.store 31 (Operand.tmp 33) (Operand.tmp 32), type := 0, pos := p, after := #[{ on := 10, ground := Ground.data }, { on := 9, ground := Ground.data }, { on := 9, ground := Ground.chain }, { on := 0, ground := Ground.phase }, { on := 1, ground := Ground.phase }, { on := 2, ground := Ground.phase }, { on := 3, ground := Ground.phase }, { on := 4, ground := Ground.phase }, { on := 5, ground := Ground.phase }, { on := 6, ground := Ground.phase }, { on := 7, ground := Ground.phase }, { on := 8, ground := Ground.phase }, { on := 9, ground := Ground.phase }], guard := none }
theorem copy_texts {w : World} {a : Option Addr} {n c : Nat} {l : Nm} (h : Rd strE w a n c l) (hn : n * 16 ≤ 140737488355328) :
 Calls Try.prog 60 #[.slice a n c] w fun e w' => (∃ v, e = .returned v ∧ Own strE w' w.heap.size v l) ∧ Below w.heap.size w w' := by
 obtain ⟨i0, hi, hz0, hz1, hz2⟩ := info_parts Try.info9
 have hl := h.len
 have hown := Own.made strE w #[] [] 0 rfl rfl (by simp [maxLen])
 have hsrc := (h.ext ((Below.refl _ w).alloc (Nat.le_refl _) (.cells #[] 9))).src (P := Try.prog) Try.underlying25
 have hH := Lib.hid h; clear h
 go_enter Try.func60, Try.ntmps60
 go_wp2_with (at_builtin; refine app_own (E := strE) rfl (.tmp 3) (.tmp 4) 25 25 rfl Try.underlying25 hi hz0 hz1 hz2 rfl rfl hown rfl hsrc ?c1 ?c2 ?c3 ?_)
 case c1 => simp [maxLen]; omega
 case c2 => simp; omega
 case c3 => simp
 intro v' w2 ho hg _
 obtain ⟨a', c', rfl⟩ := ho.shape
 go_wp2
 go_ret
 exact ⟨⟨_, rfl, by simpa using ho⟩, own_below ((Below.refl _ _).alloc (Nat.le_refl _) _) hg hown (by simp) (Nat.le_refl _)⟩
theorem copy_name {w : World} {a : Option Addr} {n c : Nat} {l : Nm} (h : Rd strE w a n c l) (hn : n * 16 ≤ 140737488355328) :
 Calls Try.prog 34 #[.slice a n c] w fun e w' => (∃ a c, e = .returned (.slice a n c) ∧ Own strE w' w.heap.size (.slice a n c) l) ∧ Below w.heap.size w w' := by
 have hl := h.len
 have hc := Lib.hid (copy_texts h hn)
 clear h
 go_enter Try.func34, Try.ntmps34
 go_wp2_with fail
 refine hc.out.mono ?_
 rintro e w1 ⟨⟨v, rfl, ho⟩, hb⟩
 obtain ⟨a', c', rfl⟩ := ho.shape
 rw [hl] at ho ⊢
 have ho' := Lib.hid ho
 have hb' := Lib.hid hb
 clear ho hb
 go_wp2_with fail
 go_ret
 exact ⟨⟨_, _, rfl, ho'.out⟩, hb'.out⟩
/-- append([]T{}, x...) as a step of a region that draws -/
theorem step_lit {α : Type} {E : Enc α} {t : TypeId} {i : TypeInfo} {z : Value} {bytes : Nat} {ops : Array Oper} {o : Oper} {a : Act} {w wc : World} {K : Act → World → Prop} {Q : Exit → Act → World → Prop} {Ep : Prop} {q : List α} {n c : Nat} {aa : Option Addr} (hgd : o.guard = none) (s x : Operand)
 (ho : o.op = .call { callee := .builtin .append, args := #[s, x], argTypes := #[t, t] }) (ht : Try.prog.underlying t = some (.slice E.e)) (hi : Try.prog.info? E.e = some i) (hz0 : i.zero = some z)
 (hsize : i.size = E.k) (hby : i.bytes = bytes) (hzc : z.cells.toList = E.f E.z) {v0 : Value} (hs : a.eval s = v0) (hx : a.eval x = .slice aa n c) (hR : Rd E w aa n c q) (hq : n * bytes ≤ 140737488355328)
 (hb : Below w.heap.size w wc) (hown : Own E wc w.heap.size v0 [])
 (h : ∀ aO cO w', Hid (Own E w' w.heap.size (.slice aO n cO) q) → Below w.heap.size w w' → wc.grownBy w' v0.ownBlock → K (a.put o.dst (.slice aO n cO)) w') :
 if Region.wanted o (yielded ops a.tmps) = true then Oper.wp Try.prog o a wc K Q else Ep := by
 have hl := hR.len
 have hcap := hR.cap
 have hmost := hR.most
 refine step_own (E := E) hgd s x t t ho ht hi hz0 hsize hby hzc hs hown hx ((hR.ext hb).src (P := Try.prog) ht) (by simp; omega) (by simpa [hl] using hq) hb.size ?_
 intro v' w2 ho2 hg _
 obtain ⟨aO, cO, rfl⟩ := ho2.shape
 have ho3 : Own E w2 w.heap.size (.slice aO n cO) q := by simpa [hl] using ho2
 have := h aO cO w2 (Lib.hid ho3) (own_below hb hg hown hb.size (Nat.le_refl _)) hg
 simpa [hl] using this
set_option maxHeartbeats 8000000 in
set_option maxRecDepth 100000 in
theorem copy_data {w : World} {ma : Option Addr} {mn mc : Nat} {ua : Option Addr} {un uc : Nat} {xa : Option Addr} {xn xc : Nat} {ra : Option Addr} {rn rc : Nat} {nm : List Nm} {nu : List Nat} {tx : Nm} {raw : List UInt8}
 (h1 : RdN w ma mn mc nm) (h2 : Rd u32E w ua un uc nu) (h3 : RdT w xa xn xc tx) (h4 : Rd byteE w ra rn rc raw) (z2 : un * 4 ≤ reachBytes) (z4 : rn ≤ reachBytes) :
 Calls Try.prog 35 #[dV (.slice ma mn mc) (.slice ua un uc) (.slice xa xn xc) (.slice ra rn rc)] w fun e w' => (∃ (aM : Option Addr) (cM : Nat) (aU : Option Addr) (cU : Nat) (aX : Option Addr) (cX : Nat) (aR : Option Addr) (cR : Nat), e = .returned (dV (.slice aM nm.length cM) (.slice aU un cU) (.slice aX xn cX) (.slice aR rn cR)) ∧ OwnN w' w.heap.size (.slice aM nm.length cM) nm ∧ Own u32E w' w.heap.size (.slice aU un cU) nu ∧ Own strE w' w.heap.size (.slice aX xn cX) tx ∧ Own byteE w' w.heap.size (.slice aR rn cR) raw) ∧ Below w.heap.size w w' := by
 unfold dV
 obtain ⟨W1, hW1⟩ : ∃ W, w.alloc (.cells #[.slice ma mn mc, .slice ua un uc, .slice xa xn xc, .slice ra rn rc] 35) = W := ⟨_, rfl⟩
 obtain ⟨W2, hW2⟩ : ∃ W, W1.alloc (.cells #[.slice none 0 0, .slice none 0 0, .slice none 0 0, .slice none 0 0] 35) = W := ⟨_, rfl⟩
 have B1 : Blk W1 w.heap.size 35 (0, 0) [.slice ma mn mc, .slice ua un uc, .slice xa xn xc, .slice ra rn rc] := by rw [← hW1]; exact Blk.new w 35 (0, 0) #[.slice ma mn mc, .slice ua un uc, .slice xa xn xc, .slice ra rn rc]
 have B2 : Hid (Blk W2 W1.heap.size 35 (0, 0) [.slice none 0 0, .slice none 0 0, .slice none 0 0, .slice none 0 0]) := Lib.hid (by rw [← hW2]; exact Blk.new W1 35 (0, 0) #[.slice none 0 0, .slice none 0 0, .slice none 0 0, .slice none 0 0])
 have k1 : Below w.heap.size w W1 := by rw [← hW1]; exact (Below.refl _ _).alloc (Nat.le_refl _) _
 have k2 : Below W1.heap.size W1 W2 := by rw [← hW2]; exact (Below.refl _ _).alloc (Nat.le_refl _) _
 have B12 := Lib.hid (B1.below k2 B1.lt)
 have hb2 := Lib.hid (k1.trans (k2.mono k1.size))
 have p0 : W2.cell? ⟨w.heap.size, 0, none⟩ = some (.slice ma mn mc) := (B12.out.cell 0).trans rfl
 have p1 : W2.cell? ⟨w.heap.size, 1, none⟩ = some (.slice ua un uc) := (B12.out.cell 1).trans rfl
 have p2 : W2.cell? ⟨w.heap.size, 2, none⟩ = some (.slice xa xn xc) := (B12.out.cell 2).trans rfl
 have p3 : W2.cell? ⟨w.heap.size, 3, none⟩ = some (.slice ra rn rc) := (B12.out.cell 3).trans rfl
 have g1 := Lib.hid (h1.ext hb2.out)
 have g2 := Lib.hid (h2.ext hb2.out)
 have g3 := Lib.hid (h3.ext hb2.out)
 have g4 := Lib.hid (h4.ext hb2.out)
 have hL1 : w.heap.size < W1.heap.size := B1.lt
 clear h1 h2 h3 h4 k1 k2 B1
 go_enter Try.func35, Try.ntmps35
 go_upto_region 1 with (fail)
 try rw [hW1]
 try rw [hW2]
 clear hW1 hW2
 obtain ⟨i0, hi, hz0, hz1, hz2⟩ := info_parts Try.info30
 have hun : un * 4 ≤ 140737488355328 := by unfold reachBytes at z2; omega
 have hrn : rn ≤ 140737488355328 := by unfold reachBytes at z4; omega
 have hxn : Hid (xn * 16 ≤ 140737488355328) := Lib.hid (by have := g3.out.2.2; unfold reachBytes at this; omega)
 have hrl := Lib.hid g4.out.len
 have hxl := Lib.hid g3.out.1.len
 have hl1 : w.heap.size < W1.heap.size := hL1
 have cs : ∀ wx : World, Below W2.heap.size W2 wx → Below W2.heap.size W2 wx ∧ wx.cell? ⟨w.heap.size, 1, none⟩ = some (.slice ua un uc) ∧ wx.cell? ⟨w.heap.size, 2, none⟩ = some (.slice xa xn xc) ∧ wx.cell? ⟨w.heap.size, 3, none⟩ = some (.slice ra rn rc) := fun _ hb => ⟨hb, cell_old p1 hb, cell_old p2 hb, cell_old p3 hb⟩
 have cs' := Lib.hid cs
 clear cs
 have l2 : w.heap.size < W2.heap.size := B12.out.lt
 have l2a : w.heap.size < W2.heap.size + 1 := by omega
 have l2b : w.heap.size < W2.heap.size + 1 + 1 := by omega
 go_cut [3] from 5 to 15 (fun t3 w8 => ∃ (b : Nat) (aU : Option Addr) (cU : Nat) (aX : Option Addr) (cX : Nat) (aR : Option Addr) (cR : Nat), t3 = .pointer (some ⟨b, 0, none⟩) ∧ W2.heap.size ≤ b ∧ Hid (Blk w8 b 35 (0, 0) [.slice none 0 0, .slice aU un cU, .slice aX xn cX, .slice aR rn cR]) ∧ Hid (Own u32E w8 W2.heap.size (.slice aU un cU) nu) ∧ Hid (Own strE w8 W2.heap.size (.slice aX xn cX) tx) ∧ Hid (Own byteE w8 W2.heap.size (.slice aR rn cR) raw) ∧ Hid (Below W2.heap.size W2 w8))
 case first =>
  refine wp_region_noPanic ?_
  refine wp_region_held_drew (S := fun w' => Below W2.heap.size W2 w' ∧ w'.cell? ⟨w.heap.size, 1, none⟩ = some (.slice ua un uc) ∧ w'.cell? ⟨w.heap.size, 2, none⟩ = some (.slice xa xn xc) ∧ w'.cell? ⟨w.heap.size, 3, none⟩ = some (.slice ra rn rc)) (by kernel_rfl) (cs'.out _ (Below.refl _ _).drew) (fun hHeld => ?_)
  have hb0 : Hid (Below W2.heap.size W2 W2.drew) := Lib.hid (Below.refl _ _).drew
  generalize W2.drew = U0 at *
  refine tkz 1 ({ dst := some 6, op := Op.fieldAddr 35 (Operand.tmp 1) 1, type := 0, pos := _, after := #[], guard := none }) ?_ rfl ?_ ?_
  rotate_left
  ·intro w hSw
   go_simp
   first | done | with_reducible rfl
  try simp only [pz0, pz2, pz3, pz4]
  refine tkz 2 ({ dst := some 7, op := Op.load 32 (Operand.tmp 6), type := 32, pos := _, after := #[{ on := 1, ground := Ground.data }], guard := none }) ?_ rfl ?_ ?_
  rotate_left
  ·intro w hSw
   go_simp
   first | done | with_reducible rfl
  try simp only [pz0, pz2, pz3, pz4]
  refine tkz 4 ({ dst := some 9, op := Op.fieldAddr 35 (Operand.tmp 1) 2, type := 0, pos := _, after := #[], guard := none }) ?_ rfl ?_ ?_
  rotate_left
  ·intro w hSw
   go_simp
   first | done | with_reducible rfl
  try simp only [pz0, pz2, pz3, pz4]
  refine tkz 5 ({ dst := some 10, op := Op.load 25 (Operand.tmp 9), type := 25, pos := _, after := #[{ on := 4, ground := Ground.data }], guard := none }) ?_ rfl ?_ ?_
  rotate_left
  ·intro w hSw
   go_simp
   first | done | with_reducible rfl
  try simp only [pz0, pz2, pz3, pz4]
  refine tkz 7 ({ dst := some 12, op := Op.fieldAddr 35 (Operand.tmp 1) 3, type := 0, pos := _, after := #[], guard := none }) ?_ rfl ?_ ?_
  rotate_left
  ·intro w hSw
   go_simp
   first | done | with_reducible rfl
  try simp only [pz0, pz2, pz3, pz4]
  refine tkz 8 ({ dst := some 13, op := Op.load 33 (Operand.tmp 12), type := 33, pos := _, after := #[{ on := 7, ground := Ground.data }], guard := none }) ?_ rfl ?_ ?_
  rotate_left
  ·intro w hSw
   go_simp
   first | done | with_reducible rfl
  try simp only [pz0, pz2, pz3, pz4]
  refine wpAnyH_ready (rs := [0, 11]) (by kernel_rfl) (by simp) ?_
  refine arz (qCpR0 _) rfl (fun K hK => ?_) ?_
  ·unfold qCpR0
   go_simp
   obtain ⟨U1, e1⟩ : ∃ U, U0.alloc (.cells #[] 30) = U := ⟨_, rfl⟩
   have k1 : Hid (Below U0.heap.size U0 U1) := Lib.hid (by rw [← e1]; exact alloc_bel _ _)
   have hb1 := Lib.hid (hb0.out.trans (k1.out.mono hb0.out.size))
   have hO1 : Hid (Own u32E U1 W2.heap.size (.slice (some ⟨U0.heap.size, 0, none⟩) 0 0) []) := Lib.hid (by rw [← e1]; exact (Own.made u32E U0 #[] [] 0 rfl rfl (Nat.zero_le _)).mono hb0.out.size)
   rw [e1]
   clear e1
   refine hK.out _ _ (cs'.out _ hb1.out) (fun hHeld => ?_)
   clear hK K
   try simp only [pz0, pz2, pz3, pz4]
   refine wpAnyH_ready (rs := [3, 11]) (by kernel_rfl) (by simp) ?_
   refine arz (qCpR1 _) rfl (fun K hK => ?_) ?_
   ·unfold qCpR1
    refine step_lit (E := u32E) (w := W2) (by rfl) (.tmp 5) (.tmp 7) (by rfl) Try.underlying32 hi hz0 hz1 hz2 (by rfl) (by rfl) (by rfl) g2.out hun hb1.out hO1.out ?_
    intro aU cU U2 hU2 hb2 hg2
    replace hb2 := Lib.hid hb2
    clear hg2
    refine hK.out _ _ (cs'.out _ hb2.out) (fun hHeld => ?_)
    clear hK K
    try simp only [pz0, pz2, pz3, pz4]
    refine wpAnyH_ready (rs := [6, 11]) (by kernel_rfl) (by simp) ?_
    refine arz (qCpR2 _) rfl (fun K hK => ?_) ?_
    ·unfold qCpR2
     refine step_call (by rfl) (.tmp 10) 25 (by rfl) (by rfl) enter60 ?_
     refine (copy_texts (g3.out.1.ext hb2.out) hxn.out).mono ?_
     rintro e U3 ⟨⟨vx, rfl, hX⟩, k3⟩
     obtain ⟨aX, cX, rfl⟩ := hX.shape
     rw [hxl.out] at hX ⊢
     have hX3 := Lib.hid (hX.mono hb2.out.size)
     clear hX
     replace k3 := Lib.hid k3
     have hb3 := Lib.hid (hb2.out.trans (k3.out.mono hb2.out.size))
     have hU3 := Lib.hid (hU2.out.ext k3.out)
     refine ⟨_, rfl, ?_⟩
     refine hK.out _ _ (cs'.out _ hb3.out) (fun hHeld => ?_)
     clear hK K
     try simp only [pz0, pz2, pz3, pz4]
     refine wpAnyH_ready (rs := [9, 11]) (by kernel_rfl) (by simp) ?_
     refine arz (qCpR3 _) rfl (fun K hK => ?_) ?_
     ·unfold qCpR3
      refine step_call (by rfl) (.tmp 13) 33 (by rfl) (by rfl) enter33 ?_
      refine (copy_bytes (g4.out.ext hb3.out) hrn).mono ?_
      rintro e U4 ⟨⟨vx, rfl, hX⟩, k4⟩
      obtain ⟨aR, cR, rfl⟩ := hX.shape
      rw [hrl.out] at hX ⊢
      have hR4 := Lib.hid (hX.mono hb3.out.size)
      clear hX
      replace k4 := Lib.hid k4
      have hb4 := Lib.hid (hb3.out.trans (k4.out.mono hb3.out.size))
      have hU4 := Lib.hid (hU3.out.ext k4.out)
      have hX4 := Lib.hid (hX3.out.ext k4.out)
      refine ⟨_, rfl, ?_⟩
      refine hK.out _ _ (cs'.out _ hb4.out) (fun hHeld => ?_)
      clear hK K
      try simp only [pz0, pz2, pz3, pz4]
      refine tkz 10 (qCpR4 _) ?_ rfl ?_ ?_
      rotate_left
      ·intro w hSw
       unfold qCpR4
       go_simp
       first | done | with_reducible rfl
      try simp only [qCpR4, pz0, pz2, pz3, pz4]
      refine wpAnyH_ready (rs := [11]) (by kernel_rfl) (by simp) ?_
      refine arz (qCpR5 _) rfl (fun K hK => ?_) AllReadyH.nil
      unfold qCpR5
      go_simp
      obtain ⟨U5, e5⟩ : ∃ U, U4.alloc (.cells #[.slice none 0 0, .slice none 0 0, .slice none 0 0, .slice none 0 0] 35) = U := ⟨_, rfl⟩
      have k5 : Hid (Below U4.heap.size U4 U5) := Lib.hid (by rw [← e5]; exact alloc_bel _ _)
      have hb5 := Lib.hid (hb4.out.trans (k5.out.mono hb4.out.size))
      have hU5 := Lib.hid (hU4.out.ext k5.out)
      have hX5 := Lib.hid (hX4.out.ext k5.out)
      have hR5 := Lib.hid (hR4.out.ext k5.out)
      have hZ5 : Hid (Blk U5 U4.heap.size 35 (0, 0) [.slice none 0 0, .slice none 0 0, .slice none 0 0, .slice none 0 0]) := Lib.hid (by rw [← e5]; exact Blk.new U4 35 (0, 0) #[.slice none 0 0, .slice none 0 0, .slice none 0 0, .slice none 0 0])
      have hz5 : Hid (W2.heap.size ≤ U4.heap.size) := hb4.out.size |> Lib.hid
      rw [e5]
      clear e5
      refine hK.out _ _ (cs'.out _ hb5.out) (fun hHeld => ?_)
      clear hK K
      try simp only [pz0, pz2, pz3, pz4]
      refine wpAnyH_ready (rs := [12]) (by kernel_rfl) (by simp) ?_
      refine arz (qCpR6 _) rfl (fun K hK => ?_) AllReadyH.nil
      unfold qCpR6
      refine step_store (by rfl) 35 (.tmp 3) (.tmp 15) (by rfl) (cells := #[.slice none 0 0, .slice aU un cU, .slice aX xn cX, .slice aR rn cR]) (by rfl) (by rfl) hZ5.out (by rfl) (by kernel_rfl) (by kernel_rfl) ?_
      intro U6 hB6 hg6 _
      have hzz : W2.heap.size ≤ U4.heap.size := hb4.out.size
      have hb6 : Below W2.heap.size W2 U6 := hb5.out.grown hg6 hb5.out.size (fun j hj => by have e2 := Option.some.inj hj; omega)
      refine hK.out _ _ (cs'.out _ hb6) (fun hHeld => ?_)
      clear hK K
      refine wpAnyH_done (by kernel_rfl) ?_ _
      refine NoPanic.normal ?_
      go_wp2_with fail
      go_meet
      exact ⟨_, _, _, _, _, _, _, rfl, hzz, Lib.hid hB6, Lib.hid (own_store hU5.out hZ5.out (by decide) hg6), Lib.hid (own_store hX5.out hZ5.out (by decide) hg6), Lib.hid (own_store hR5.out hZ5.out (by decide) hg6), Lib.hid hb6⟩
     refine arz (qCpR5 _) rfl (fun K hK => ?_) AllReadyH.nil
     unfold qCpR5
     go_simp
     obtain ⟨U7, e7⟩ : ∃ U, U3.alloc (.cells #[.slice none 0 0, .slice none 0 0, .slice none 0 0, .slice none 0 0] 35) = U := ⟨_, rfl⟩
     have k7 : Hid (Below U3.heap.size U3 U7) := Lib.hid (by rw [← e7]; exact alloc_bel _ _)
     have hb7 := Lib.hid (hb3.out.trans (k7.out.mono hb3.out.size))
     have hU7 := Lib.hid (hU3.out.ext k7.out)
     have hX7 := Lib.hid (hX3.out.ext k7.out)
     have hZ7 : Hid (Blk U7 U3.heap.size 35 (0, 0) [.slice none 0 0, .slice none 0 0, .slice none 0 0, .slice none 0 0]) := Lib.hid (by rw [← e7]; exact Blk.new U3 35 (0, 0) #[.slice none 0 0, .slice none 0 0, .slice none 0 0, .slice none 0 0])
     have hz7 : Hid (W2.heap.size ≤ U3.heap.size) := hb3.out.size |> Lib.hid
     rw [e7]
     clear e7
     refine hK.out _ _ (cs'.out _ hb7.out) (fun hHeld => ?_)
     clear hK K
     try simp only [pz0, pz2, pz3, pz4]
     refine wpAnyH_ready (rs := [9]) (by kernel_rfl) (by simp) ?_
     refine arz (qCpR3 _) rfl (fun K hK => ?_) AllReadyH.nil
     unfold qCpR3
     refine step_call (by rfl) (.tmp 13) 33 (by rfl) (by rfl) enter33 ?_
     refine (copy_bytes (g4.out.ext hb7.out) hrn).mono ?_
     rintro e U8 ⟨⟨vx, rfl, hX⟩, k8⟩
     obtain ⟨aR, cR, rfl⟩ := hX.shape
     rw [hrl.out] at hX ⊢
     have hR8 := Lib.hid (hX.mono hb7.out.size)
     clear hX
     replace k8 := Lib.hid k8
     have hb8 := Lib.hid (hb7.out.trans (k8.out.mono hb7.out.size))
     have hU8 := Lib.hid (hU7.out.ext k8.out)
     have hX8 := Lib.hid (hX7.out.ext k8.out)
     have hZ8 := Lib.hid (hZ7.out.below k8.out hZ7.out.lt)
     refine ⟨_, rfl, ?_⟩
     refine hK.out _ _ (cs'.out _ hb8.out) (fun hHeld => ?_)
     clear hK K
     try simp only [pz0, pz2, pz3, pz4]
     refine tkz 10 (qCpR4 _) ?_ rfl ?_ ?_
     rotate_left
     ·intro w hSw
      unfold qCpR4
      go_simp
      first | done | with_reducible rfl
     try simp only [qCpR4, pz0, pz2, pz3, pz4]
     refine wpAnyH_ready (rs := [12]) (by kernel_rfl) (by simp) ?_
     refine arz (qCpR6 _) rfl (fun K hK => ?_) AllReadyH.nil
     unfold qCpR6
     refine step_store (by rfl) 35 (.tmp 3) (.tmp 15) (by rfl) (cells := #[.slice none 0 0, .slice aU un cU, .slice aX xn cX, .slice aR rn cR]) (by rfl) (by rfl) hZ8.out (by rfl) (by kernel_rfl) (by kernel_rfl) ?_
     intro U9 hB9 hg9 _
     have hzz : W2.heap.size ≤ U3.heap.size := hb3.out.size
     have hb9 : Below W2.heap.size W2 U9 := hb8.out.grown hg9 hb8.out.size (fun j hj => by have e2 := Option.some.inj hj; omega)
     refine hK.out _ _ (cs'.out _ hb9) (fun hHeld => ?_)
     clear hK K
     refine wpAnyH_done (by kernel_rfl) ?_ _
     refine NoPanic.normal ?_
     go_wp2_with fail
     go_meet
     exact ⟨_, _, _, _, _, _, _, rfl, hzz, Lib.hid hB9, Lib.hid (own_store hU8.out hZ8.out (by decide) hg9), Lib.hid (own_store hX8.out hZ8.out (by decide) hg9), Lib.hid (own_store hR8.out hZ8.out (by decide) hg9), Lib.hid hb9⟩
    refine arz (qCpR5 _) rfl (fun K hK => ?_) AllReadyH.nil
    unfold qCpR5
    go_simp
    obtain ⟨U10, e10⟩ : ∃ U, U2.alloc (.cells #[.slice none 0 0, .slice none 0 0, .slice none 0 0, .slice none 0 0] 35) = U := ⟨_, rfl⟩
    have k10 : Hid (Below U2.heap.size U2 U10) := Lib.hid (by rw [← e10]; exact alloc_bel _ _)
    have hb10 := Lib.hid (hb2.out.trans (k10.out.mono hb2.out.size))
    have hU10 := Lib.hid (hU2.out.ext k10.out)
    have hZ10 : Hid (Blk U10 U2.heap.size 35 (0, 0) [.slice none 0 0, .slice none 0 0, .slice none 0 0, .slice none 0 0]) := Lib.hid (by rw [← e10]; exact Blk.new U2 35 (0, 0) #[.slice none 0 0, .slice none 0 0, .slice none 0 0, .slice none 0 0])
    have hz10 : Hid (W2.heap.size ≤ U2.heap.size) := hb2.out.size |> Lib.hid
    rw [e10]
    clear e10
    refine hK.out _ _ (cs'.out _ hb10.out) (fun hHeld => ?_)
    clear hK K
    try simp only [pz0, pz2, pz3, pz4]
    refine wpAnyH_ready (rs := [6]) (by kernel_rfl) (by simp) ?_
    refine arz (qCpR2 _) rfl (fun K hK => ?_) AllReadyH.nil
    unfold qCpR2
    refine step_call (by rfl) (.tmp 10) 25 (by rfl) (by rfl) enter60 ?_
    refine (copy_texts (g3.out.1.ext hb10.out) hxn.out).mono ?_
    rintro e U11 ⟨⟨vx, rfl, hX⟩, k11⟩
    obtain ⟨aX, cX, rfl⟩ := hX.shape
    rw [hxl.out] at hX ⊢
    have hX11 := Lib.hid (hX.mono hb10.out.size)
    clear hX
    replace k11 := Lib.hid k11
    have hb11 := Lib.hid (hb10.out.trans (k11.out.mono hb10.out.size))
    have hU11 := Lib.hid (hU10.out.ext k11.out)
    have hZ11 := Lib.hid (hZ10.out.below k11.out hZ10.out.lt)
    refine ⟨_, rfl, ?_⟩
    refine hK.out _ _ (cs'.out _ hb11.out) (fun hHeld => ?_)
    clear hK K
    try simp only [pz0, pz2, pz3, pz4]
    refine wpAnyH_ready (rs := [9]) (by kernel_rfl) (by simp) ?_
    refine arz (qCpR3 _) rfl (fun K hK => ?_) AllReadyH.nil
    unfold qCpR3
    refine step_call (by rfl) (.tmp 13) 33 (by rfl) (by rfl) enter33 ?_
    refine (copy_bytes (g4.out.ext hb11.out) hrn).mono ?_
    rintro e U12 ⟨⟨vx, rfl, hX⟩, k12⟩
    obtain ⟨aR, cR, rfl⟩ := hX.shape
    rw [hrl.out] at hX ⊢
    have hR12 := Lib.hid (hX.mono hb11.out.size)
    clear hX
    replace k12 := Lib.hid k12
    have hb12 := Lib.hid (hb11.out.trans (k12.out.mono hb11.out.size))
    have hU12 := Lib.hid (hU11.out.ext k12.out)
    have hX12 := Lib.hid (hX11.out.ext k12.out)
    have hZ12 := Lib.hid (hZ11.out.below k12.out hZ11.out.lt)
    refine ⟨_, rfl, ?_⟩
    refine hK.out _ _ (cs'.out _ hb12.out) (fun hHeld => ?_)
    clear hK K
    try simp only [pz0, pz2, pz3, pz4]
    refine tkz 10 (qCpR4 _) ?_ rfl ?_ ?_
    rotate_left
    ·intro w hSw
     unfold qCpR4
     go_simp
     first | done | with_reducible rfl
    try simp only [qCpR4, pz0, pz2, pz3, pz4]
    refine wpAnyH_ready (rs := [12]) (by kernel_rfl) (by simp) ?_
    refine arz (qCpR6 _) rfl (fun K hK => ?_) AllReadyH.nil
    unfold qCpR6
    refine step_store (by rfl) 35 (.tmp 3) (.tmp 15) (by rfl) (cells := #[.slice none 0 0, .slice aU un cU, .slice aX xn cX, .slice aR rn cR]) (by rfl) (by rfl) hZ12.out (by rfl) (by kernel_rfl) (by kernel_rfl) ?_
    intro U13 hB13 hg13 _
    have hzz : W2.heap.size ≤ U2.heap.size := hb2.out.size
    have hb13 : Below W2.heap.size W2 U13 := hb12.out.grown hg13 hb12.out.size (fun j hj => by have e2 := Option.some.inj hj; omega)
    refine hK.out _ _ (cs'.out _ hb13) (fun hHeld => ?_)
    clear hK K
    refine wpAnyH_done (by kernel_rfl) ?_ _
    refine NoPanic.normal ?_
    go_wp2_with fail
    go_meet
    exact ⟨_, _, _, _, _, _, _, rfl, hzz, Lib.hid hB13, Lib.hid (own_store hU12.out hZ12.out (by decide) hg13), Lib.hid (own_store hX12.out hZ12.out (by decide) hg13), Lib.hid (own_store hR12.out hZ12.out (by decide) hg13), Lib.hid hb13⟩
   refine arz (qCpR5 _) rfl (fun K hK => ?_) AllReadyH.nil
   unfold qCpR5
   go_simp
   obtain ⟨U14, e14⟩ : ∃ U, U1.alloc (.cells #[.slice none 0 0, .slice none 0 0, .slice none 0 0, .slice none 0 0] 35) = U := ⟨_, rfl⟩
   have k14 : Hid (Below U1.heap.size U1 U14) := Lib.hid (by rw [← e14]; exact alloc_bel _ _)
   have hb14 := Lib.hid (hb1.out.trans (k14.out.mono hb1.out.size))
   have hO14 := Lib.hid (hO1.out.ext k14.out)
   have hZ14 : Hid (Blk U14 U1.heap.size 35 (0, 0) [.slice none 0 0, .slice none 0 0, .slice none 0 0, .slice none 0 0]) := Lib.hid (by rw [← e14]; exact Blk.new U1 35 (0, 0) #[.slice none 0 0, .slice none 0 0, .slice none 0 0, .slice none 0 0])
   have hz14 : Hid (W2.heap.size ≤ U1.heap.size) := hb1.out.size |> Lib.hid
   have hne : U1.heap.size ≠ U0.heap.size := fun e => by have h2 : U0.heap.size < U1.heap.size := (hO1.out.lt _ rfl).2; omega
   rw [e14]
   clear e14
   refine hK.out _ _ (cs'.out _ hb14.out) (fun hHeld => ?_)
   clear hK K
   try simp only [pz0, pz2, pz3, pz4]
   refine wpAnyH_ready (rs := [3]) (by kernel_rfl) (by simp) ?_
   refine arz (qCpR1 _) rfl (fun K hK => ?_) AllReadyH.nil
   unfold qCpR1
   refine step_lit (E := u32E) (w := W2) (by rfl) (.tmp 5) (.tmp 7) (by rfl) Try.underlying32 hi hz0 hz1 hz2 (by rfl) (by rfl) (by rfl) g2.out hun hb14.out hO14.out ?_
   intro aU cU U15 hU15 hb15 hg15
   replace hb15 := Lib.hid hb15
   have hZ15 := Lib.hid (hZ14.out.grownV2 hg15 (fun e => hne (Option.some.inj (show some U1.heap.size = some U0.heap.size from e))))
   clear hg15
   refine hK.out _ _ (cs'.out _ hb15.out) (fun hHeld => ?_)
   clear hK K
   try simp only [pz0, pz2, pz3, pz4]
   refine wpAnyH_ready (rs := [6]) (by kernel_rfl) (by simp) ?_
   refine arz (qCpR2 _) rfl (fun K hK => ?_) AllReadyH.nil
   unfold qCpR2
   refine step_call (by rfl) (.tmp 10) 25 (by rfl) (by rfl) enter60 ?_
   refine (copy_texts (g3.out.1.ext hb15.out) hxn.out).mono ?_
   rintro e U16 ⟨⟨vx, rfl, hX⟩, k16⟩
   obtain ⟨aX, cX, rfl⟩ := hX.shape
   rw [hxl.out] at hX ⊢
   have hX16 := Lib.hid (hX.mono hb15.out.size)
   clear hX
   replace k16 := Lib.hid k16
   have hb16 := Lib.hid (hb15.out.trans (k16.out.mono hb15.out.size))
   have hU16 := Lib.hid (hU15.out.ext k16.out)
   have hZ16 := Lib.hid (hZ15.out.below k16.out hZ15.out.lt)
   refine ⟨_, rfl, ?_⟩
   refine hK.out _ _ (cs'.out _ hb16.out) (fun hHeld => ?_)
   clear hK K
   try simp only [pz0, pz2, pz3, pz4]
   refine wpAnyH_ready (rs := [9]) (by kernel_rfl) (by simp) ?_
   refine arz (qCpR3 _) rfl (fun K hK => ?_) AllReadyH.nil
   unfold qCpR3
   refine step_call (by rfl) (.tmp 13) 33 (by rfl) (by rfl) enter33 ?_
   refine (copy_bytes (g4.out.ext hb16.out) hrn).mono ?_
   rintro e U17 ⟨⟨vx, rfl, hX⟩, k17⟩
   obtain ⟨aR, cR, rfl⟩ := hX.shape
   rw [hrl.out] at hX ⊢
   have hR17 := Lib.hid (hX.mono hb16.out.size)
   clear hX
   replace k17 := Lib.hid k17
   have hb17 := Lib.hid (hb16.out.trans (k17.out.mono hb16.out.size))
   have hU17 := Lib.hid (hU16.out.ext k17.out)
   have hX17 := Lib.hid (hX16.out.ext k17.out)
   have hZ17 := Lib.hid (hZ16.out.below k17.out hZ16.out.lt)
   refine ⟨_, rfl, ?_⟩
   refine hK.out _ _ (cs'.out _ hb17.out) (fun hHeld => ?_)
   clear hK K
   try simp only [pz0, pz2, pz3, pz4]
   refine tkz 10 (qCpR4 _) ?_ rfl ?_ ?_
   rotate_left
   ·intro w hSw
    unfold qCpR4
    go_simp
    first | done | with_reducible rfl
   try simp only [qCpR4, pz0, pz2, pz3, pz4]
   refine wpAnyH_ready (rs := [12]) (by kernel_rfl) (by simp) ?_
   refine arz (qCpR6 _) rfl (fun K hK => ?_) AllReadyH.nil
   unfold qCpR6
   refine step_store (by rfl) 35 (.tmp 3) (.tmp 15) (by rfl) (cells := #[.slice none 0 0, .slice aU un cU, .slice aX xn cX, .slice aR rn cR]) (by rfl) (by rfl) hZ17.out (by rfl) (by kernel_rfl) (by kernel_rfl) ?_
   intro U18 hB18 hg18 _
   have hzz : W2.heap.size ≤ U1.heap.size := hb1.out.size
   have hb18 : Below W2.heap.size W2 U18 := hb17.out.grown hg18 hb17.out.size (fun j hj => by have e2 := Option.some.inj hj; omega)
   refine hK.out _ _ (cs'.out _ hb18) (fun hHeld => ?_)
   clear hK K
   refine wpAnyH_done (by kernel_rfl) ?_ _
   refine NoPanic.normal ?_
   go_wp2_with fail
   go_meet
   exact ⟨_, _, _, _, _, _, _, rfl, hzz, Lib.hid hB18, Lib.hid (own_store hU17.out hZ17.out (by decide) hg18), Lib.hid (own_store hX17.out hZ17.out (by decide) hg18), Lib.hid (own_store hR17.out hZ17.out (by decide) hg18), Lib.hid hb18⟩
  refine arz (qCpR5 _) rfl (fun K hK => ?_) AllReadyH.nil
  unfold qCpR5
  go_simp
  obtain ⟨U19, e19⟩ : ∃ U, U0.alloc (.cells #[.slice none 0 0, .slice none 0 0, .slice none 0 0, .slice none 0 0] 35) = U := ⟨_, rfl⟩
  have k19 : Hid (Below U0.heap.size U0 U19) := Lib.hid (by rw [← e19]; exact alloc_bel _ _)
  have hb19 := Lib.hid (hb0.out.trans (k19.out.mono hb0.out.size))
  have hZ19 : Hid (Blk U19 U0.heap.size 35 (0, 0) [.slice none 0 0, .slice none 0 0, .slice none 0 0, .slice none 0 0]) := Lib.hid (by rw [← e19]; exact Blk.new U0 35 (0, 0) #[.slice none 0 0, .slice none 0 0, .slice none 0 0, .slice none 0 0])
  have hz19 : Hid (W2.heap.size ≤ U0.heap.size) := hb0.out.size |> Lib.hid
  rw [e19]
  clear e19
  refine hK.out _ _ (cs'.out _ hb19.out) (fun hHeld => ?_)
  clear hK K
  try simp only [pz0, pz2, pz3, pz4]
  refine wpAnyH_ready (rs := [0]) (by kernel_rfl) (by simp) ?_
  refine arz (qCpR0 _) rfl (fun K hK => ?_) AllReadyH.nil
  unfold qCpR0
  go_simp
  obtain ⟨U20, e20⟩ : ∃ U, U19.alloc (.cells #[] 30) = U := ⟨_, rfl⟩
  have k20 : Hid (Below U19.heap.size U19 U20) := Lib.hid (by rw [← e20]; exact alloc_bel _ _)
  have hb20 := Lib.hid (hb19.out.trans (k20.out.mono hb19.out.size))
  have hZ20 := Lib.hid (hZ19.out.below k20.out hZ19.out.lt)
  have hO20 : Hid (Own u32E U20 W2.heap.size (.slice (some ⟨U19.heap.size, 0, none⟩) 0 0) []) := Lib.hid (by rw [← e20]; exact (Own.made u32E U19 #[] [] 0 rfl rfl (Nat.zero_le _)).mono hb19.out.size)
  have hne : U0.heap.size ≠ U19.heap.size := Nat.ne_of_lt hZ19.out.lt
  rw [e20]
  clear e20
  refine hK.out _ _ (cs'.out _ hb20.out) (fun hHeld => ?_)
  clear hK K
  try simp only [pz0, pz2, pz3, pz4]
  refine wpAnyH_ready (rs := [3]) (by kernel_rfl) (by simp) ?_
  refine arz (qCpR1 _) rfl (fun K hK => ?_) AllReadyH.nil
  unfold qCpR1
  refine step_lit (E := u32E) (w := W2) (by rfl) (.tmp 5) (.tmp 7) (by rfl) Try.underlying32 hi hz0 hz1 hz2 (by rfl) (by rfl) (by rfl) g2.out hun hb20.out hO20.out ?_
  intro aU cU U21 hU21 hb21 hg21
  replace hb21 := Lib.hid hb21
  have hZ21 := Lib.hid (hZ20.out.grownV2 hg21 (fun e => hne (Option.some.inj (show some U0.heap.size = some U19.heap.size from e))))
  clear hg21
  refine hK.out _ _ (cs'.out _ hb21.out) (fun hHeld => ?_)
  clear hK K
  try simp only [pz0, pz2, pz3, pz4]
  refine wpAnyH_ready (rs := [6]) (by kernel_rfl) (by simp) ?_
  refine arz (qCpR2 _) rfl (fun K hK => ?_) AllReadyH.nil
  unfold qCpR2
  refine step_call (by rfl) (.tmp 10) 25 (by rfl) (by rfl) enter60 ?_
  refine (copy_texts (g3.out.1.ext hb21.out) hxn.out).mono ?_
  rintro e U22 ⟨⟨vx, rfl, hX⟩, k22⟩
  obtain ⟨aX, cX, rfl⟩ := hX.shape
  rw [hxl.out] at hX ⊢
  have hX22 := Lib.hid (hX.mono hb21.out.size)
  clear hX
  replace k22 := Lib.hid k22
  have hb22 := Lib.hid (hb21.out.trans (k22.out.mono hb21.out.size))
  have hU22 := Lib.hid (hU21.out.ext k22.out)
  have hZ22 := Lib.hid (hZ21.out.below k22.out hZ21.out.lt)
  refine ⟨_, rfl, ?_⟩
  refine hK.out _ _ (cs'.out _ hb22.out) (fun hHeld => ?_)
  clear hK K
  try simp only [pz0, pz2, pz3, pz4]
  refine wpAnyH_ready (rs := [9]) (by kernel_rfl) (by simp) ?_
  refine arz (qCpR3 _) rfl (fun K hK => ?_) AllReadyH.nil
  unfold qCpR3
  refine step_call (by rfl) (.tmp 13) 33 (by rfl) (by rfl) enter33 ?_
  refine (copy_bytes (g4.out.ext hb22.out) hrn).mono ?_
  rintro e U23 ⟨⟨vx, rfl, hX⟩, k23⟩
  obtain ⟨aR, cR, rfl⟩ := hX.shape
  rw [hrl.out] at hX ⊢
  have hR23 := Lib.hid (hX.mono hb22.out.size)
  clear hX
  replace k23 := Lib.hid k23
  have hb23 := Lib.hid (hb22.out.trans (k23.out.mono hb22.out.size))
  have hU23 := Lib.hid (hU22.out.ext k23.out)
  have hX23 := Lib.hid (hX22.out.ext k23.out)
  have hZ23 := Lib.hid (hZ22.out.below k23.out hZ22.out.lt)
  refine ⟨_, rfl, ?_⟩
  refine hK.out _ _ (cs'.out _ hb23.out) (fun hHeld => ?_)
  clear hK K
  try simp only [pz0, pz2, pz3, pz4]
  refine tkz 10 (qCpR4 _) ?_ rfl ?_ ?_
  rotate_left
  ·intro w hSw
   unfold qCpR4
   go_simp
   first | done | with_reducible rfl
  try simp only [qCpR4, pz0, pz2, pz3, pz4]
  refine wpAnyH_ready (rs := [12]) (by kernel_rfl) (by simp) ?_
  refine arz (qCpR6 _) rfl (fun K hK => ?_) AllReadyH.nil
  unfold qCpR6
  refine step_store (by rfl) 35 (.tmp 3) (.tmp 15) (by rfl) (cells := #[.slice none 0 0, .slice aU un cU, .slice aX xn cX, .slice aR rn cR]) (by rfl) (by rfl) hZ23.out (by rfl) (by kernel_rfl) (by kernel_rfl) ?_
  intro U24 hB24 hg24 _
  have hzz : W2.heap.size ≤ U0.heap.size := hb0.out.size
  have hb24 : Below W2.heap.size W2 U24 := hb23.out.grown hg24 hb23.out.size (fun j hj => by have e2 := Option.some.inj hj; omega)
  refine hK.out _ _ (cs'.out _ hb24) (fun hHeld => ?_)
  clear hK K
  refine wpAnyH_done (by kernel_rfl) ?_ _
  refine NoPanic.normal ?_
  go_wp2_with fail
  go_meet
  exact ⟨_, _, _, _, _, _, _, rfl, hzz, Lib.hid hB24, Lib.hid (own_store hU23.out hZ23.out (by decide) hg24), Lib.hid (own_store hX23.out hZ23.out (by decide) hg24), Lib.hid (own_store hR23.out hZ23.out (by decide) hg24), Lib.hid hb24⟩
 case rest =>
  obtain ⟨b, aU, cU, aX, cX, aR, cR, rfl, hbz, hB, hU, hX, hR, hbel⟩ := hcut
  have hnl := Lib.hid g1.out.len
  have hmn : Hid (mn * 24 ≤ 140737488355304) := Lib.hid (by obtain ⟨ps, _, _, h4, _⟩ := g1.out; unfold reachBytes at h4; omega)
  have hmnI : (mn : Int) ≤ 9223372036854775806 := by have := hmn.out; omega
  have l2' : Hid (w.heap.size < W1.heap.size ∧ W1.heap.size < W2.heap.size) := Lib.hid ⟨hl1, B2.out.lt⟩
  have p0' := Lib.hid p0
  clear p0 p1 p2 p3 cs' hxn hrl hxl hun hrn
  go_upto_region 3 with (fail)
  go_loopw [4] (fun i wr => ∃ (k : Nat) (v : Value), k ≤ mn ∧ i = .int .i64 k ∧ Hid (Blk wr b 35 (0, 0) [v, .slice aU un cU, .slice aX xn cX, .slice aR rn cR]) ∧ Hid (OwnN wr W2.heap.size v (nm.take k)) ∧ Hid (Own u32E wr W2.heap.size (.slice aU un cU) nu) ∧ Hid (Own strE wr W2.heap.size (.slice aX xn cX) tx) ∧ Hid (Own byteE wr W2.heap.size (.slice aR rn cR) raw) ∧ Hid (Below W2.heap.size W2 wr)) (fun i _ => mn - (intOf i).toNat)
  case atStart => exact ⟨0, _, Nat.zero_le _, rfl, hB, Lib.hid (OwnN.nil _ _), hU, hX, hR, hbel⟩
  case round =>
   clear hB hU hX hR hbel
   obtain ⟨k, v, hk, rfl, hB, hN, hU, hX, hR, hbel⟩ := hrel
   obtain ⟨av, cv, rfl⟩ := hN.out.shape
   have q0 : wr.cell? ⟨w.heap.size, 0, none⟩ = some (.slice ma mn mc) := cell_old p0'.out hbel.out
   by_cases hlt : k < mn
   ·obtain ⟨bb, o, rfl, hbb, hcs⟩ := g1.out.at_ (by omega)
    obtain ⟨ax, nx, cx, r1, r2⟩ := hcs k (by rw [hnl.out]; exact hlt)
    have e0 := r2.1.len
    subst e0
    have hkI : (k : Int) < mn := by omega
    have hk0 : 0 ≤ (k : Int) := by omega
    have htl : (nm.take k).length = k := by rw [List.length_take, hnl.out]; omega
    have htk : nm.take (k + 1) = nm.take k ++ [nm[k]'(by rw [hnl.out]; exact hlt)] := List.take_succ_eq_append_getElem _
    have htk' := Lib.hid htk
    have hl1k : Hid ((nm.take (k + 1)).length = k + 1) := Lib.hid (by rw [List.length_take, hnl.out]; omega)
    generalize nm[k]'(by rw [hnl.out]; exact hlt) = Y at *
    have htl' := Lib.hid htl
    replace hN : Hid (OwnN wr W2.heap.size (.slice av k cv) (nm.take k)) := Lib.hid (by have := hN.out; rw [htl] at this; exact this)
    rw [htl] at hB
    have r2' := Lib.hid r2
    have hnx : Hid (Y.length * 16 ≤ 140737488355328) := Lib.hid (by have := r2.2.2; unfold reachBytes at this; omega)
    have cs : ∀ wx : World, Below W2.heap.size W2 wx → Below W2.heap.size W2 wx ∧ wx.cell? ⟨w.heap.size, 0, none⟩ = some (.slice (some ⟨bb, o, none⟩) mn mc) ∧ wx.cell? ⟨bb, o + k, none⟩ = some (.slice ax Y.length cx) := fun wx hb => ⟨hb, cell_old p0'.out hb, cell_old r1 hb⟩
    have cs' := Lib.hid cs
    have r1' := cell_old r1 hbel.out
    have hclt : Hid (∀ j, (Value.slice av k cv).ownBlock = some j → W2.heap.size ≤ j) := Lib.hid (fun j hj => by obtain ⟨ps, p1, _⟩ := hN.out; exact (p1.lt j hj).1)
    have hkA : Hid (k * 24 ≤ 140737488355304) := Lib.hid (by have := hmn.out; omega)
    clear cs hcs r2 htk htl r1
    go_upto_region 5 with (fail)
    refine wp_region_noPanic ?_
    refine wp_region_held_drew (S := fun w' => Below W2.heap.size W2 w' ∧ w'.cell? ⟨w.heap.size, 0, none⟩ = some (.slice (some ⟨bb, o, none⟩) mn mc) ∧ w'.cell? ⟨bb, o + k, none⟩ = some (.slice ax Y.length cx)) (by kernel_rfl) (cs'.out _ hbel.out.drew) (fun hHeld => ?_)
    have hb0 : Hid (Below W2.heap.size W2 wr.drew) := Lib.hid hbel.out.drew
    have k0 : Hid (Below wr.heap.size wr wr.drew) := Lib.hid (Below.refl _ _).drew
    have t0 : wr.drew.cell? ⟨b, 0, none⟩ = some (.slice av k cv) := (hB.out.cell 0).trans rfl
    generalize wr.drew = U0 at *
    refine tkz 0 ({ dst := some 23, op := Op.fieldAddr 35 (Operand.tmp 3) 0, type := 0, pos := _, after := #[], guard := none }) ?_ rfl ?_ ?_
    rotate_left
    ·intro w hSw
     go_simp
     first | done | with_reducible rfl
    try simp only [pz0, pz2, pz3, pz4]
    refine tkz 2 ({ dst := some 25, op := Op.fieldAddr 35 (Operand.tmp 1) 0, type := 0, pos := _, after := #[], guard := none }) ?_ rfl ?_ ?_
    rotate_left
    ·intro w hSw
     go_simp
     first | done | with_reducible rfl
    try simp only [pz0, pz2, pz3, pz4]
    refine tkz 3 ({ dst := some 26, op := Op.load 31 (Operand.tmp 25), type := 31, pos := _, after := #[{ on := 2, ground := Ground.data }], guard := none }) ?_ rfl ?_ ?_
    rotate_left
    ·intro w hSw
     go_simp
     first | done | with_reducible rfl
    try simp only [pz0, pz2, pz3, pz4]
    refine tkz 4 ({ dst := some 27, op := Op.move (Operand.tmp 4), type := 3, pos := _, after := #[], guard := none }) ?_ rfl ?_ ?_
    rotate_left
    ·intro w hSw
     go_simp
     first | done | with_reducible rfl
    try simp only [pz0, pz2, pz3, pz4]
    refine tkz 5 ({ dst := some 28, op := Op.indexAddr 31 (Operand.tmp 26) (Operand.tmp 27), type := 0, pos := _, after := #[{ on := 3, ground := Ground.data }, { on := 4, ground := Ground.data }], guard := none }) ?_ rfl ?_ ?_
    rotate_left
    ·intro w hSw
     go_simp
     first | done | with_reducible rfl
    try simp only [pz0, pz2, pz3, pz4]
    refine tkz 6 ({ dst := some 29, op := Op.load 26 (Operand.tmp 28), type := 26, pos := _, after := #[{ on := 5, ground := Ground.data }], guard := none }) ?_ rfl ?_ ?_
    rotate_left
    ·intro w hSw
     go_simp
     first | done | with_reducible rfl
    try simp only [pz0, pz2, pz3, pz4]
    refine wpAnyH_ready (rs := [1, 7]) (by kernel_rfl) (by simp) ?_
    refine arz (qCpR7 _) rfl (fun K hK => ?_) ?_
    ·unfold qCpR7
     go_simp
     refine hK.out _ _ (cs'.out _ hb0.out) (fun hHeld => ?_)
     clear hK K
     try simp only [pz0, pz2, pz3, pz4]
     refine wpAnyH_ready (rs := [7]) (by kernel_rfl) (by simp) ?_
     refine arz (qCpR8 _) rfl (fun K hK => ?_) AllReadyH.nil
     unfold qCpR8
     refine step_call (by rfl) (.tmp 29) 26 (by rfl) (by rfl) enter34 ?_
     refine (copy_name (r2'.out.1.ext hb0.out) hnx.out).mono ?_
     rintro e U2 ⟨⟨aY, cY, rfl, hY⟩, q2⟩
     have hY2 := Lib.hid (hY.mono hb0.out.size)
     clear hY
     have k2 := Lib.hid (k0.out.trans (q2.mono k0.out.size))
     have hb2 := Lib.hid (hb0.out.trans (q2.mono hb0.out.size))
     clear q2
     have t2 : U2.cell? ⟨b, 0, none⟩ = some (.slice av k cv) := ((hB.out.below k2.out hB.out.lt).cell 0).trans rfl
     refine ⟨_, rfl, ?_⟩
     refine hK.out _ _ (cs'.out _ hb2.out) (fun hHeld => ?_)
     clear hK K
     try simp only [pz0, pz2, pz3, pz4]
     refine wpAnyH_ready (rs := [8]) (by kernel_rfl) (by simp) ?_
     refine arz (qCpR9 _) rfl (fun K hK => ?_) AllReadyH.nil
     unfold qCpR9
     go_simp
     obtain ⟨U3, e3⟩ : ∃ U, U2.alloc (.cells #[.slice aY Y.length cY] 26) = U := ⟨_, rfl⟩
     have m3 : Hid (Below U2.heap.size U2 U3) := Lib.hid (by rw [← e3]; exact alloc_bel _ _)
     have hL3 : Hid (Blk U3 U2.heap.size 26 (0, 0) [.slice aY Y.length cY]) := Lib.hid (by rw [← e3]; exact Blk.new U2 26 (0, 0) #[.slice aY Y.length cY])
     have k3 := Lib.hid (k2.out.trans (m3.out.mono k2.out.size))
     have hb3 := Lib.hid (hb2.out.trans (m3.out.mono hb2.out.size))
     have t3 : U3.cell? ⟨b, 0, none⟩ = some (.slice av k cv) := ((hB.out.below k3.out hB.out.lt).cell 0).trans rfl
     rw [e3]
     clear e3
     refine hK.out _ _ (cs'.out _ hb3.out) (fun hHeld => ?_)
     clear hK K
     try simp only [pz0, pz2, pz3, pz4]
     refine wpAnyH_ready (rs := [9]) (by kernel_rfl) (by simp) ?_
     refine arz (qCpR10 _) rfl (fun K hK => ?_) AllReadyH.nil
     unfold qCpR10
     refine step_nm (W0 := U2) (base := W2.heap.size) (by rfl) (.tmp 24) (.tmp 31) (by rfl) htl'.out (hN.out.ext k2.out) hY2.out hL3.out m3.out hb2.out.size hkA.out (by rfl) (by rfl) ?_
     intro a9 c9 U4 hN4 hg4
     have hN4 := Lib.hid hN4
     have hO4 := hN.out.ext k3.out
     have hb4 := Lib.hid (ownN_below hb3.out hg4 hO4 hb3.out.size (Nat.le_refl _))
     have hB4 := Lib.hid (blk_ownN (hB.out.below k3.out hB.out.lt) hO4 (by decide) hg4)
     have hU4 := Lib.hid (ownN_grown (hU.out.ext k3.out) hO4 (by decide) hg4)
     have hX4 := Lib.hid (ownN_grown (hX.out.ext k3.out) hO4 (by decide) hg4)
     have hR4 := Lib.hid (ownN_grown (hR.out.ext k3.out) hO4 (by decide) hg4)
     have t4 : U4.cell? ⟨b, 0, none⟩ = some (.slice av k cv) := (hB4.out.cell 0).trans rfl
     have f4 : U4.frozen? ⟨b, 0, none⟩ = false := by rw [hB4.out.frozen]; try simp
     clear hO4 hg4
     refine hK.out _ _ (cs'.out _ hb4.out) (fun hHeld => ?_)
     clear hK K
     try simp only [pz0, pz2, pz3, pz4]
     refine tkz 10 (qCpR11 _) ?_ rfl ?_ ?_
     rotate_left
     ·intro w hSw
      unfold qCpR11
      go_simp
      first | done | with_reducible rfl
     try simp only [qCpR11, pz0, pz2, pz3, pz4]
     refine wpAnyH_ready (rs := [11]) (by kernel_rfl) (by simp) ?_
     refine arz (qCpR12 _) rfl (fun K hK => ?_) AllReadyH.nil
     unfold qCpR12
     go_simp
     obtain ⟨V, hV⟩ : ∃ V, U4.setCell ⟨b, 0, none⟩ (.slice a9 (k + 1) c9) = V := ⟨_, rfl⟩
     rw [hV]
     have hgV : U4.grownBy V (some b) := by rw [← hV]; exact grown_set _ _ _ _
     have yB : Hid (Blk V b 35 (0, 0) [.slice a9 (k + 1) c9, .slice aU un cU, .slice aX xn cX, .slice aR rn cR]) := Lib.hid (by rw [← hV]; exact hB4.out.set 0 _)
     have yN : Hid (OwnN V W2.heap.size (.slice a9 (k + 1) c9) (nm.take (k + 1))) := Lib.hid (by rw [htk'.out]; exact ownN_store hN4.out hB4.out (by decide) (by decide) hgV)
     have yU := Lib.hid (own_store hU4.out hB4.out (by decide) hgV)
     have yX := Lib.hid (own_store hX4.out hB4.out (by decide) hgV)
     have yR := Lib.hid (own_store hR4.out hB4.out (by decide) hgV)
     have yb : Hid (Below W2.heap.size W2 V) := Lib.hid (hb4.out.grown hgV hb4.out.size (fun j hj => by have e2 := Option.some.inj hj; omega))
     clear hV hgV
     refine hK.out _ _ (cs'.out _ yb.out) (fun hHeld => ?_)
     clear hK K
     refine wpAnyH_done (by kernel_rfl) ?_ _
     refine NoPanic.normal ?_
     go_wp2_with fail
     go_roundw
     case rel => exact ⟨k + 1, _, by omega, by go_num, yB, yN, yU, yX, yR, yb⟩
     case measure => simp [intOf]; omega
    refine arz (qCpR8 _) rfl (fun K hK => ?_) AllReadyH.nil
    unfold qCpR8
    refine step_call (by rfl) (.tmp 29) 26 (by rfl) (by rfl) enter34 ?_
    refine (copy_name (r2'.out.1.ext hb0.out) hnx.out).mono ?_
    rintro e U6 ⟨⟨aY, cY, rfl, hY⟩, q6⟩
    have hY6 := Lib.hid (hY.mono hb0.out.size)
    clear hY
    have k6 := Lib.hid (k0.out.trans (q6.mono k0.out.size))
    have hb6 := Lib.hid (hb0.out.trans (q6.mono hb0.out.size))
    clear q6
    have t6 : U6.cell? ⟨b, 0, none⟩ = some (.slice av k cv) := ((hB.out.below k6.out hB.out.lt).cell 0).trans rfl
    refine ⟨_, rfl, ?_⟩
    refine hK.out _ _ (cs'.out _ hb6.out) (fun hHeld => ?_)
    clear hK K
    try simp only [pz0, pz2, pz3, pz4]
    refine wpAnyH_ready (rs := [1, 8]) (by kernel_rfl) (by simp) ?_
    refine arz (qCpR7 _) rfl (fun K hK => ?_) ?_
    ·unfold qCpR7
     go_simp
     refine hK.out _ _ (cs'.out _ hb6.out) (fun hHeld => ?_)
     clear hK K
     try simp only [pz0, pz2, pz3, pz4]
     refine wpAnyH_ready (rs := [8]) (by kernel_rfl) (by simp) ?_
     refine arz (qCpR9 _) rfl (fun K hK => ?_) AllReadyH.nil
     unfold qCpR9
     go_simp
     obtain ⟨U8, e8⟩ : ∃ U, U6.alloc (.cells #[.slice aY Y.length cY] 26) = U := ⟨_, rfl⟩
     have m8 : Hid (Below U6.heap.size U6 U8) := Lib.hid (by rw [← e8]; exact alloc_bel _ _)
     have hL8 : Hid (Blk U8 U6.heap.size 26 (0, 0) [.slice aY Y.length cY]) := Lib.hid (by rw [← e8]; exact Blk.new U6 26 (0, 0) #[.slice aY Y.length cY])
     have k8 := Lib.hid (k6.out.trans (m8.out.mono k6.out.size))
     have hb8 := Lib.hid (hb6.out.trans (m8.out.mono hb6.out.size))
     have t8 : U8.cell? ⟨b, 0, none⟩ = some (.slice av k cv) := ((hB.out.below k8.out hB.out.lt).cell 0).trans rfl
     rw [e8]
     clear e8
     refine hK.out _ _ (cs'.out _ hb8.out) (fun hHeld => ?_)
     clear hK K
     try simp only [pz0, pz2, pz3, pz4]
     refine wpAnyH_ready (rs := [9]) (by kernel_rfl) (by simp) ?_
     refine arz (qCpR10 _) rfl (fun K hK => ?_) AllReadyH.nil
     unfold qCpR10
     refine step_nm (W0 := U6) (base := W2.heap.size) (by rfl) (.tmp 24) (.tmp 31) (by rfl) htl'.out (hN.out.ext k6.out) hY6.out hL8.out m8.out hb6.out.size hkA.out (by rfl) (by rfl) ?_
     intro a9 c9 U9 hN9 hg9
     have hN9 := Lib.hid hN9
     have hO9 := hN.out.ext k8.out
     have hb9 := Lib.hid (ownN_below hb8.out hg9 hO9 hb8.out.size (Nat.le_refl _))
     have hB9 := Lib.hid (blk_ownN (hB.out.below k8.out hB.out.lt) hO9 (by decide) hg9)
     have hU9 := Lib.hid (ownN_grown (hU.out.ext k8.out) hO9 (by decide) hg9)
     have hX9 := Lib.hid (ownN_grown (hX.out.ext k8.out) hO9 (by decide) hg9)
     have hR9 := Lib.hid (ownN_grown (hR.out.ext k8.out) hO9 (by decide) hg9)
     have t9 : U9.cell? ⟨b, 0, none⟩ = some (.slice av k cv) := (hB9.out.cell 0).trans rfl
     have f9 : U9.frozen? ⟨b, 0, none⟩ = false := by rw [hB9.out.frozen]; try simp
     clear hO9 hg9
     refine hK.out _ _ (cs'.out _ hb9.out) (fun hHeld => ?_)
     clear hK K
     try simp only [pz0, pz2, pz3, pz4]
     refine tkz 10 (qCpR11 _) ?_ rfl ?_ ?_
     rotate_left
     ·intro w hSw
      unfold qCpR11
      go_simp
      first | done | with_reducible rfl
     try simp only [qCpR11, pz0, pz2, pz3, pz4]
     refine wpAnyH_ready (rs := [11]) (by kernel_rfl) (by simp) ?_
     refine arz (qCpR12 _) rfl (fun K hK => ?_) AllReadyH.nil
     unfold qCpR12
     go_simp
     obtain ⟨V, hV⟩ : ∃ V, U9.setCell ⟨b, 0, none⟩ (.slice a9 (k + 1) c9) = V := ⟨_, rfl⟩
     rw [hV]
     have hgV : U9.grownBy V (some b) := by rw [← hV]; exact grown_set _ _ _ _
     have yB : Hid (Blk V b 35 (0, 0) [.slice a9 (k + 1) c9, .slice aU un cU, .slice aX xn cX, .slice aR rn cR]) := Lib.hid (by rw [← hV]; exact hB9.out.set 0 _)
     have yN : Hid (OwnN V W2.heap.size (.slice a9 (k + 1) c9) (nm.take (k + 1))) := Lib.hid (by rw [htk'.out]; exact ownN_store hN9.out hB9.out (by decide) (by decide) hgV)
     have yU := Lib.hid (own_store hU9.out hB9.out (by decide) hgV)
     have yX := Lib.hid (own_store hX9.out hB9.out (by decide) hgV)
     have yR := Lib.hid (own_store hR9.out hB9.out (by decide) hgV)
     have yb : Hid (Below W2.heap.size W2 V) := Lib.hid (hb9.out.grown hgV hb9.out.size (fun j hj => by have e2 := Option.some.inj hj; omega))
     clear hV hgV
     refine hK.out _ _ (cs'.out _ yb.out) (fun hHeld => ?_)
     clear hK K
     refine wpAnyH_done (by kernel_rfl) ?_ _
     refine NoPanic.normal ?_
     go_wp2_with fail
     go_roundw
     case rel => exact ⟨k + 1, _, by omega, by go_num, yB, yN, yU, yX, yR, yb⟩
     case measure => simp [intOf]; omega
    refine arz (qCpR9 _) rfl (fun K hK => ?_) AllReadyH.nil
    unfold qCpR9
    go_simp
    obtain ⟨U11, e11⟩ : ∃ U, U6.alloc (.cells #[.slice aY Y.length cY] 26) = U := ⟨_, rfl⟩
    have m11 : Hid (Below U6.heap.size U6 U11) := Lib.hid (by rw [← e11]; exact alloc_bel _ _)
    have hL11 : Hid (Blk U11 U6.heap.size 26 (0, 0) [.slice aY Y.length cY]) := Lib.hid (by rw [← e11]; exact Blk.new U6 26 (0, 0) #[.slice aY Y.length cY])
    have k11 := Lib.hid (k6.out.trans (m11.out.mono k6.out.size))
    have hb11 := Lib.hid (hb6.out.trans (m11.out.mono hb6.out.size))
    have t11 : U11.cell? ⟨b, 0, none⟩ = some (.slice av k cv) := ((hB.out.below k11.out hB.out.lt).cell 0).trans rfl
    rw [e11]
    clear e11
    refine hK.out _ _ (cs'.out _ hb11.out) (fun hHeld => ?_)
    clear hK K
    try simp only [pz0, pz2, pz3, pz4]
    refine wpAnyH_ready (rs := [1]) (by kernel_rfl) (by simp) ?_
    refine arz (qCpR7 _) rfl (fun K hK => ?_) AllReadyH.nil
    unfold qCpR7
    go_simp
    refine hK.out _ _ (cs'.out _ hb11.out) (fun hHeld => ?_)
    clear hK K
    try simp only [pz0, pz2, pz3, pz4]
    refine wpAnyH_ready (rs := [9]) (by kernel_rfl) (by simp) ?_
    refine arz (qCpR10 _) rfl (fun K hK => ?_) AllReadyH.nil
    unfold qCpR10
    refine step_nm (W0 := U6) (base := W2.heap.size) (by rfl) (.tmp 24) (.tmp 31) (by rfl) htl'.out (hN.out.ext k6.out) hY6.out hL11.out m11.out hb6.out.size hkA.out (by rfl) (by rfl) ?_
    intro a9 c9 U13 hN13 hg13
    have hN13 := Lib.hid hN13
    have hO13 := hN.out.ext k11.out
    have hb13 := Lib.hid (ownN_below hb11.out hg13 hO13 hb11.out.size (Nat.le_refl _))
    have hB13 := Lib.hid (blk_ownN (hB.out.below k11.out hB.out.lt) hO13 (by decide) hg13)
    have hU13 := Lib.hid (ownN_grown (hU.out.ext k11.out) hO13 (by decide) hg13)
    have hX13 := Lib.hid (ownN_grown (hX.out.ext k11.out) hO13 (by decide) hg13)
    have hR13 := Lib.hid (ownN_grown (hR.out.ext k11.out) hO13 (by decide) hg13)
    have t13 : U13.cell? ⟨b, 0, none⟩ = some (.slice av k cv) := (hB13.out.cell 0).trans rfl
    have f13 : U13.frozen? ⟨b, 0, none⟩ = false := by rw [hB13.out.frozen]; try simp
    clear hO13 hg13
    refine hK.out _ _ (cs'.out _ hb13.out) (fun hHeld => ?_)
    clear hK K
    try simp only [pz0, pz2, pz3, pz4]
    refine tkz 10 (qCpR11 _) ?_ rfl ?_ ?_
    rotate_left
    ·intro w hSw
     unfold qCpR11
     go_simp
     first | done | with_reducible rfl
    try simp only [qCpR11, pz0, pz2, pz3, pz4]
    refine wpAnyH_ready (rs := [11]) (by kernel_rfl) (by simp) ?_
    refine arz (qCpR12 _) rfl (fun K hK => ?_) AllReadyH.nil
    unfold qCpR12
    go_simp
    obtain ⟨V, hV⟩ : ∃ V, U13.setCell ⟨b, 0, none⟩ (.slice a9 (k + 1) c9) = V := ⟨_, rfl⟩
    rw [hV]
    have hgV : U13.grownBy V (some b) := by rw [← hV]; exact grown_set _ _ _ _
    have yB : Hid (Blk V b 35 (0, 0) [.slice a9 (k + 1) c9, .slice aU un cU, .slice aX xn cX, .slice aR rn cR]) := Lib.hid (by rw [← hV]; exact hB13.out.set 0 _)
    have yN : Hid (OwnN V W2.heap.size (.slice a9 (k + 1) c9) (nm.take (k + 1))) := Lib.hid (by rw [htk'.out]; exact ownN_store hN13.out hB13.out (by decide) (by decide) hgV)
    have yU := Lib.hid (own_store hU13.out hB13.out (by decide) hgV)
    have yX := Lib.hid (own_store hX13.out hB13.out (by decide) hgV)
    have yR := Lib.hid (own_store hR13.out hB13.out (by decide) hgV)
    have yb : Hid (Below W2.heap.size W2 V) := Lib.hid (hb13.out.grown hgV hb13.out.size (fun j hj => by have e2 := Option.some.inj hj; omega))
    clear hV hgV
    refine hK.out _ _ (cs'.out _ yb.out) (fun hHeld => ?_)
    clear hK K
    refine wpAnyH_done (by kernel_rfl) ?_ _
    refine NoPanic.normal ?_
    go_wp2_with fail
    go_roundw
    case rel => exact ⟨k + 1, _, by omega, by go_num, yB, yN, yU, yX, yR, yb⟩
    case measure => simp [intOf]; omega
   ·have hk' : k = mn := by omega
    subst hk'
    have hfull : nm.take k = nm := List.take_of_length_le (by rw [hnl.out]; exact Nat.le_refl _)
    rw [hfull] at hN hB
    have t0 : wr.cell? ⟨b, 0, none⟩ = some (.slice av nm.length cv) := (hB.out.cell 0).trans rfl
    have t1 : wr.cell? ⟨b, 1, none⟩ = some (.slice aU un cU) := (hB.out.cell 1).trans rfl
    have t2 : wr.cell? ⟨b, 2, none⟩ = some (.slice aX xn cX) := (hB.out.cell 2).trans rfl
    have t3 : wr.cell? ⟨b, 3, none⟩ = some (.slice aR rn cR) := (hB.out.cell 3).trans rfl
    have hZ := Lib.hid (B2.out.below hbel.out l2'.out.2)
    have hbw : Hid (Below w.heap.size w wr) := Lib.hid (hb2.out.trans (hbel.out.mono hb2.out.size))
    clear hfull
    go_wp2_with (refine store_whole rfl 35 (.tmp 2) (.tmp 34) rfl rfl rfl hZ.out (by rfl) (by kernel_rfl) (by kernel_rfl) ?_; intro w6 hB6 hg6 hz6; have hR6 := Lib.hid hB6; have hg6' := Lib.hid hg6; clear hB6 hg6 hz6)
    refine bodyPost_ret (results_c rfl _ rfl hR6.out Try.underlying35 rfl (by kernel_rfl)) rfl ?_
    have hle : w.heap.size ≤ W2.heap.size := by have := l2'.out; omega
    refine ⟨⟨_, _, _, _, _, _, _, _, rfl, (ownN_store hN.out hZ.out (by decide) (by decide) hg6'.out).mono hle, (own_store hU.out hZ.out (by decide) hg6'.out).mono hle, (own_store hX.out hZ.out (by decide) hg6'.out).mono hle, (own_store hR.out hZ.out (by decide) hg6'.out).mono hle⟩, ?_⟩
    exact hbw.out.grown hg6'.out hbw.out.size (fun j hj => by have e2 := Option.some.inj hj; have := l2'.out; omega)
end Go.Proofs.Ythgnlbdolilklaa
