/- Small functions of the network: Clone 42, own 28, cmp.Compare 39, the search's closure 38, the search 37. Printed by gen_ntb.py. -/
import Derived.Test.YthdnbipfdahnlaaNtI
namespace Go.Proofs.Ythdnbipfdahnlaa
open Go Go.RowKit
def pkV (h : Hd) (d : Value) : Value := .agg #[.int .u32 h.from_, .int .u16 h.fport, .int .u32 h.to_, .int .u16 h.tport, .bool h.stream, d]
def flV (at_ : Int) (h : Hd) (d : Value) : Value := .agg #[.int .i64 at_, .int .u32 h.from_, .int .u16 h.fport, .int .u32 h.to_, .int .u16 h.tport, .bool h.stream, d]
set_option maxHeartbeats 4000000 in
set_option maxRecDepth 100000 in
theorem clone_bytes {w : World} {a : Option Addr} {n c : Nat} {l : List UInt8} (h : Rd byteE w a n c l) (hn : n * 1 ≤ 140737488355328) :
    Calls Try.prog 42 #[.slice a n c] w fun e w' => (∃ a' c', e = .returned (.slice a' n c') ∧ Own byteE w' w.heap.size (.slice a' n c') l) ∧ Below w.heap.size w w' := by
  obtain ⟨i0, hi, hz0, hz1, hz2⟩ := info_parts Try.info5
  have hl := h.len
  have hown := Own.made byteE w #[] [] 0 rfl rfl (by simp [maxLen])
  have hsrc := (h.ext ((Below.refl _ w).alloc (Nat.le_refl _) (.cells #[] 5))).src (P := Try.prog) Try.underlying30
  have q41 : ∀ (u : World) (a : Option Addr) (n c : Nat), (binOp .eql 30 (.slice a n c) (.slice none 0 0)).run Try.prog u = .ok (.bool a.isNone) u := fun u a n c => Go.Lib.run_eql_slice_nil u 30 5 a n c 0 0 Try.underlying30
  cases a with
  | none =>
    have hn0 : n = 0 := by
      rcases Nat.eq_zero_or_pos n with h0 | h0
      · exact h0
      · obtain ⟨b, o, hb⟩ := h.addr h0; simp at hb
    subst hn0
    have hl0 : l = [] := List.length_eq_zero_iff.1 hl
    subst hl0
    have hc : c = c := rfl
    clear hc
    go_enter Try.func42, Try.ntmps42
    go_wp2_with fail
    go_ret
    exact ⟨⟨none, 0, rfl, Own.nil _ _ _⟩, Below.refl _ _⟩
  | some ad =>
  clear h
  go_enter Try.func42, Try.ntmps42
  go_wp2_with (at_builtin; refine app_own (E := byteE) rfl _ _ 30 30 rfl Try.underlying30 hi hz0 hz1 hz2 rfl rfl hown rfl hsrc ?c1 ?c2 ?c3 ?_)
  case c1 => simp [maxLen]; omega
  case c2 => simp; omega
  case c3 => simp
  intro v' w2 ho hg _
  obtain ⟨a', c', rfl⟩ := ho.shape
  have hb2 := own_below ((Below.refl w.heap.size w).alloc (Nat.le_refl _) _) hg hown (by simp) (Nat.le_refl _)
  have hO := Lib.hid ho
  clear ho hg hsrc hown
  go_wp2
  go_ret
  refine ⟨⟨a', c', ?_, ?_⟩, hb2⟩
  · rw [← hl]
    rfl
  · rw [← hl]
    simpa using hO.out
set_option maxHeartbeats 4000000 in
set_option maxRecDepth 100000 in
theorem clone_fates {w : World} {a : Option Addr} {n c : Nat} {l : List Fate} (h : Rd fateE w a n c l) (hn : n * 24 ≤ 140737488355328) :
    Calls Try.prog 23 #[.slice a n c] w fun e w' => (∃ a' c', e = .returned (.slice a' n c') ∧ Own fateE w' w.heap.size (.slice a' n c') l) ∧ Below w.heap.size w w' := by
  obtain ⟨i0, hi, hz0, hz1, hz2⟩ := info_parts Try.info51
  have hl := h.len
  have hown := Own.made fateE w #[] [] 0 rfl rfl (by simp [maxLen])
  have hsrc := (h.ext ((Below.refl _ w).alloc (Nat.le_refl _) (.cells #[] 51))).src (P := Try.prog) Try.underlying40
  have q41 : ∀ (u : World) (a : Option Addr) (n c : Nat), (binOp .eql 40 (.slice a n c) (.slice none 0 0)).run Try.prog u = .ok (.bool a.isNone) u := fun u a n c => Go.Lib.run_eql_slice_nil u 40 51 a n c 0 0 Try.underlying40
  cases a with
  | none =>
    have hn0 : n = 0 := by
      rcases Nat.eq_zero_or_pos n with h0 | h0
      · exact h0
      · obtain ⟨b, o, hb⟩ := h.addr h0; simp at hb
    subst hn0
    have hl0 : l = [] := List.length_eq_zero_iff.1 hl
    subst hl0
    have hc : c = c := rfl
    clear hc
    go_enter Try.func23, Try.ntmps23
    go_wp2_with fail
    go_ret
    exact ⟨⟨none, 0, rfl, Own.nil _ _ _⟩, Below.refl _ _⟩
  | some ad =>
  clear h
  go_enter Try.func23, Try.ntmps23
  go_wp2_with (at_builtin; refine app_own (E := fateE) rfl _ _ 40 40 rfl Try.underlying40 hi hz0 hz1 hz2 rfl rfl hown rfl hsrc ?c1 ?c2 ?c3 ?_)
  case c1 => simp [maxLen]; omega
  case c2 => simp; omega
  case c3 => simp
  intro v' w2 ho hg _
  obtain ⟨a', c', rfl⟩ := ho.shape
  have hb2 := own_below ((Below.refl w.heap.size w).alloc (Nat.le_refl _) _) hg hown (by simp) (Nat.le_refl _)
  have hO := Lib.hid ho
  clear ho hg hsrc hown
  go_wp2
  go_ret
  refine ⟨⟨a', c', ?_, ?_⟩, hb2⟩
  · rw [← hl]
    rfl
  · rw [← hl]
    simpa using hO.out
set_option maxHeartbeats 8000000 in
set_option maxRecDepth 100000 in
theorem own_any {w : World} (h : Hd) {da : Option Addr} {dn dc : Nat} {d : List UInt8} (hr : Rd byteE w da dn dc d) (hn : dn ≤ 140737488355328) :
    Calls Try.prog 28 #[pkV h (.slice da dn dc)] w fun e w' => (∃ a c, e = .returned (pkV h (.slice a dn c)) ∧ Own byteE w' w.heap.size (.slice a dn c) d) ∧ Below w.heap.size w w' := by
  unfold pkV
  obtain ⟨W1, hW1⟩ : ∃ W, w.alloc (.cells #[.int .u32 h.from_, .int .u16 h.fport, .int .u32 h.to_, .int .u16 h.tport, .bool h.stream, .slice da dn dc] 32) = W := ⟨_, rfl⟩
  have B1 : Hid (Blk W1 w.heap.size 32 (0, 0) [.int .u32 h.from_, .int .u16 h.fport, .int .u32 h.to_, .int .u16 h.tport, .bool h.stream, .slice da dn dc]) := Lib.hid (by rw [← hW1]; exact Blk.new w 32 (0, 0) #[.int .u32 h.from_, .int .u16 h.fport, .int .u32 h.to_, .int .u16 h.tport, .bool h.stream, .slice da dn dc])
  have k1 : Hid (Below w.heap.size w W1) := Lib.hid (by rw [← hW1]; exact alloc_bel _ _)
  obtain ⟨W2, hW2⟩ : ∃ W, W1.alloc (.cells #[.int .u32 0, .int .u16 0, .int .u32 0, .int .u16 0, .bool false, .slice none 0 0] 32) = W := ⟨_, rfl⟩
  have B2 : Hid (Blk W2 W1.heap.size 32 (0, 0) [.int .u32 0, .int .u16 0, .int .u32 0, .int .u16 0, .bool false, .slice none 0 0]) := Lib.hid (by rw [← hW2]; exact Blk.new W1 32 (0, 0) #[.int .u32 0, .int .u16 0, .int .u32 0, .int .u16 0, .bool false, .slice none 0 0])
  have k2 : Hid (Below W1.heap.size W1 W2) := Lib.hid (by rw [← hW2]; exact alloc_bel _ _)
  have hl1 : Hid (w.heap.size < W1.heap.size) := Lib.hid B1.out.lt
  have kb := Lib.hid (k1.out.trans (k2.out.mono k1.out.size))
  have B12 := Lib.hid (B1.out.below k2.out B1.out.lt)
  have hcl := Lib.hid (clone_bytes (hr.ext kb.out) (by omega))
  clear hr
  have p5 : W2.cell? ⟨w.heap.size, 5, none⟩ = some (.slice da dn dc) := (B12.out.cell 5).trans rfl
  go_enter Try.func28, Try.ntmps28
  go_wp2_with fail
  try rw [hW1]
  try rw [hW2]
  clear hW1 hW2
  refine hcl.out.mono ?_
  rintro e w3 ⟨⟨a, c, rfl, ho⟩, hb⟩
  have kb3 := Lib.hid (kb.out.trans (hb.mono kb.out.size))
  have B13 := Lib.hid (B12.out.below hb B12.out.lt)
  have B23 := Lib.hid (B2.out.below hb B2.out.lt)
  have ho3 := Lib.hid (ho.mono kb.out.size)
  clear ho hb hcl p5 B12 B1 B2
  have p0 : w3.cell? ⟨w.heap.size, 0, none⟩ = some (.int .u32 h.from_) := (B13.out.cell 0).trans rfl
  have p1 : w3.cell? ⟨w.heap.size, 1, none⟩ = some (.int .u16 h.fport) := (B13.out.cell 1).trans rfl
  have p2 : w3.cell? ⟨w.heap.size, 2, none⟩ = some (.int .u32 h.to_) := (B13.out.cell 2).trans rfl
  have p3 : w3.cell? ⟨w.heap.size, 3, none⟩ = some (.int .u16 h.tport) := (B13.out.cell 3).trans rfl
  have p4 : w3.cell? ⟨w.heap.size, 4, none⟩ = some (.bool h.stream) := (B13.out.cell 4).trans rfl
  have p5 : w3.cell? ⟨w.heap.size, 5, none⟩ = some (.slice da dn dc) := (B13.out.cell 5).trans rfl
  have f5 : w3.frozen? ⟨w.heap.size, 5, none⟩ = false := by rw [B13.out.frozen]; try simp
  go_upto_region 2 with (fail)
  obtain ⟨w4, hV⟩ : ∃ V, w3.setCell ⟨w.heap.size, 5, none⟩ (.slice a dn c) = V := ⟨_, rfl⟩
  try rw [hV]
  have hgV : w3.grownBy w4 (some w.heap.size) := by rw [← hV]; exact grown_set _ _ _ _
  have B14 : Hid (Blk w4 w.heap.size 32 (0, 0) [.int .u32 h.from_, .int .u16 h.fport, .int .u32 h.to_, .int .u16 h.tport, .bool h.stream, .slice a dn c]) := Lib.hid (by rw [← hV]; exact B13.out.set 5 _)
  have B24 := Lib.hid (B23.out.grownV2 hgV (fun e => by have e2 := Option.some.inj e; have := hl1.out; omega))
  have ho4 := Lib.hid (own_store ho3.out B13.out (by decide) hgV)
  have kb4 := Lib.hid (kb3.out.grown hgV kb3.out.size (fun k hk => by cases hk; exact Nat.le_refl _))
  clear hV hgV B13 B23 ho3 f5 p0 p1 p2 p3 p4 p5
  have p0 : w4.cell? ⟨w.heap.size, 0, none⟩ = some (.int .u32 h.from_) := (B14.out.cell 0).trans rfl
  have p1 : w4.cell? ⟨w.heap.size, 1, none⟩ = some (.int .u16 h.fport) := (B14.out.cell 1).trans rfl
  have p2 : w4.cell? ⟨w.heap.size, 2, none⟩ = some (.int .u32 h.to_) := (B14.out.cell 2).trans rfl
  have p3 : w4.cell? ⟨w.heap.size, 3, none⟩ = some (.int .u16 h.tport) := (B14.out.cell 3).trans rfl
  have p4 : w4.cell? ⟨w.heap.size, 4, none⟩ = some (.bool h.stream) := (B14.out.cell 4).trans rfl
  have p5 : w4.cell? ⟨w.heap.size, 5, none⟩ = some (.slice a dn c) := (B14.out.cell 5).trans rfl
  go_wp2_with (refine store_whole rfl 32 (.tmp 2) (.tmp 7) rfl rfl rfl B24.out (by rfl) (by kernel_rfl) (by first | kernel_rfl | rfl) ?_; intro w5 hBx hgx hzx; have R5 := Lib.hid hBx; have g5 := Lib.hid hgx; clear hBx hgx hzx)
  refine bodyPost_ret (results_c rfl _ rfl R5.out Try.underlying32 rfl (by kernel_rfl)) rfl ?_
  exact ⟨⟨a, c, rfl, own_store ho4.out B24.out (by decide) g5.out⟩, kb4.out.grown g5.out kb4.out.size (fun k hk => by have e2 := Option.some.inj hk; have := hl1.out; omega)⟩
theorem isnan (w : World) (x : Int) : Calls Try.prog 46 #[.int .i64 x] w fun e w' => e = .returned (.bool false) ∧ w = w' := by
  go_enter Try.func46, Try.ntmps46
  go_wp2
  go_ret
  exact ⟨by simp, rfl⟩
def cmpI (x y : Int) : Int := if x < y then -1 else if y < x then 1 else 0
theorem cmp_int (w : World) (x y : Int) : Calls Try.prog 39 #[.int .i64 x, .int .i64 y] w fun e w' => e = .returned (.int .i64 (cmpI x y)) ∧ w = w' := by
  unfold cmpI
  by_cases h1 : x < y
  · rw [if_pos h1]
    go_enter Try.func39, Try.ntmps39
    go_wp2_with fail
    refine (isnan w x).mono ?_
    rintro e w1 ⟨rfl, rfl⟩
    go_wp2_with fail
    refine (isnan w y).mono ?_
    rintro e w1 ⟨rfl, rfl⟩
    go_wp2_with fail
    go_ret
    exact ⟨rfl, rfl⟩
  · rw [if_neg h1]
    by_cases h2 : y < x
    · rw [if_pos h2]
      go_enter Try.func39, Try.ntmps39
      go_wp2_with fail
      refine (isnan w x).mono ?_
      rintro e w1 ⟨rfl, rfl⟩
      go_wp2_with fail
      refine (isnan w y).mono ?_
      rintro e w1 ⟨rfl, rfl⟩
      go_wp2_with fail
      go_ret
      exact ⟨rfl, rfl⟩
    · rw [if_neg h2]
      go_enter Try.func39, Try.ntmps39
      go_wp2_with fail
      refine (isnan w x).mono ?_
      rintro e w1 ⟨rfl, rfl⟩
      go_wp2_with fail
      refine (isnan w y).mono ?_
      rintro e w1 ⟨rfl, rfl⟩
      go_wp2_with fail
      go_ret
      exact ⟨rfl, rfl⟩
set_option maxHeartbeats 8000000 in
set_option maxRecDepth 100000 in
theorem less_any (w : World) (a : Int) (h : Hd) (d : Value) (y : Int) : Calls Try.prog 38 #[flV a h d, .int .i64 y] w fun e w' => e = .returned (.int .i64 (if a ≤ y then -1 else 1)) ∧ Below w.heap.size w w' := by
  unfold flV
  obtain ⟨W1, hW1⟩ : ∃ W, w.alloc (.cells #[.int .i64 a, .int .u32 h.from_, .int .u16 h.fport, .int .u32 h.to_, .int .u16 h.tport, .bool h.stream, d] 71) = W := ⟨_, rfl⟩
  have B1 : Hid (Blk W1 w.heap.size 71 (0, 0) [.int .i64 a, .int .u32 h.from_, .int .u16 h.fport, .int .u32 h.to_, .int .u16 h.tport, .bool h.stream, d]) := Lib.hid (by rw [← hW1]; exact Blk.new w 71 (0, 0) #[.int .i64 a, .int .u32 h.from_, .int .u16 h.fport, .int .u32 h.to_, .int .u16 h.tport, .bool h.stream, d])
  have k1 : Hid (Below w.heap.size w W1) := Lib.hid (by rw [← hW1]; exact alloc_bel _ _)
  have p0 : W1.cell? ⟨w.heap.size, 0, none⟩ = some (.int .i64 a) := (B1.out.cell 0).trans rfl
  by_cases h1 : a ≤ y
  · rw [if_pos h1]
    go_enter Try.func38, Try.ntmps38
    go_wp2_with fail
    try rw [hW1]
    go_ret
    exact ⟨rfl, k1.out⟩
  · rw [if_neg h1]
    have hc : Hid (cmpI a y = 1) := Lib.hid (by unfold cmpI; rw [if_neg (by omega), if_pos (by omega)])
    go_enter Try.func38, Try.ntmps38
    go_wp2_with fail
    try rw [hW1]
    refine (cmp_int _ a y).mono ?_
    rintro e w1 ⟨rfl, rfl⟩
    rw [hc.out]
    go_wp2_with fail
    try rw [hW1]
    go_ret
    exact ⟨rfl, k1.out⟩
theorem rd_fl {w : World} {a : Option Addr} {n c : Nat} {l : List FD} (h : Rd flE w a n c l) (h0 : 0 < n) : ∃ b o, a = some ⟨b, o, none⟩ ∧ b < w.heap.size ∧ ∀ j (hj : j < l.length) i v, (flE.f l[j])[i]? = some v → w.cell? ⟨b, o + j * 7 + i, none⟩ = some v := by
  obtain ⟨b, o, h1, h2, h3⟩ := h.addr h0
  refine ⟨b, o, h1, h2, fun j hj i v hv => ?_⟩
  have hi : i < 7 := (List.getElem?_eq_some_iff.1 hv).1
  have h4 := h3 j hj i hi
  rw [Nat.add_assoc]
  exact h4.trans hv
/-- sorted by moments -/
def Srt (l : List FD) : Prop := ∀ (i j : Nat), i < j → ∀ (x y : FD), l[i]? = some x → l[j]? = some y → x.at_ ≤ y.at_
set_option maxHeartbeats 8000000 in
set_option maxRecDepth 100000 in
theorem search_any {w : World} {a : Option Addr} {n c : Nat} {l : List FD} (h : Rd flE w a n c l) (hs : Srt l) (hn : n ≤ 100000) (y : Int) :
    Calls Try.prog 37 #[.slice a n c, .int .i64 y, .func (.func 38) #[] #[]] w fun e w' => (∃ i : Nat, e = .returned (.tuple #[.int .i64 i, .bool false]) ∧ i ≤ n ∧ (∀ (k : Nat) (x : FD), k < i → l[k]? = some x → x.at_ ≤ y) ∧ (∀ (k : Nat) (x : FD), i ≤ k → l[k]? = some x → y < x.at_)) ∧ Below w.heap.size w w' := by
  have hl := h.len
  have hH := Lib.hid h
  have hs' := Lib.hid hs
  clear h hs
  go_enter Try.func37, Try.ntmps37
  go_wp2_with fail
  go_loopw [9, 10] (fun i j wr => ∃ p q : Nat, i = .int .i64 p ∧ j = .int .i64 q ∧ p ≤ q ∧ q ≤ n ∧ Hid (∀ (k : Nat) (x : FD), k < p → l[k]? = some x → x.at_ ≤ y) ∧ Hid (∀ (k : Nat) (x : FD), q ≤ k → l[k]? = some x → y < x.at_) ∧ Hid (Below w.heap.size w wr)) (fun i j _ => (intOf j).toNat - (intOf i).toNat)
  case atStart => exact ⟨0, n, rfl, rfl, Nat.zero_le _, Nat.le_refl _, Lib.hid (fun k x hk => by omega), Lib.hid (fun k x hk hx => by have := (List.getElem?_eq_some_iff.1 hx).1; omega), Lib.hid (Below.refl _ _)⟩
  case round =>
    obtain ⟨p, q, rfl, rfl, hpq, hqn, h1, h2, hb⟩ := hrel
    by_cases hlt : p < q
    · have hkI : (p : Int) < q := by omega
      have hq0 : 0 ≤ (q : Int) := by omega
      have hp0 : 0 ≤ (p : Int) := by omega
      have hqN : (q : Int) ≤ 100000 := by omega
      obtain ⟨m, hm⟩ : ∃ m : Nat, ((p : Int) + q) / 2 = m := ⟨(p + q) / 2, by omega⟩
      have hpm : p ≤ m := by omega
      have hmq : m < q := by omega
      obtain ⟨b, o, rfl, hbs, hc⟩ := rd_fl (hH.out.ext hb.out) (by omega)
      have hml : m < l.length := by omega
      have hc := hc m hml
      obtain ⟨x, hx⟩ : ∃ x, l[m] = x := ⟨_, rfl⟩
      have hxm : Hid (l[m]? = some x) := Lib.hid (by rw [List.getElem?_eq_getElem hml, hx])
      rw [hx] at hc
      clear hx
      obtain ⟨aa, hh, da, dn, dc⟩ := x
      have c0 : wr.cell? ⟨b, o + m * 7, none⟩ = some (.int .i64 aa) := hc 0 _ rfl
      have c1 : wr.cell? ⟨b, o + m * 7 + 1, none⟩ = some (.int .u32 hh.from_) := hc 1 _ rfl
      have c2 : wr.cell? ⟨b, o + m * 7 + 2, none⟩ = some (.int .u16 hh.fport) := hc 2 _ rfl
      have c3 : wr.cell? ⟨b, o + m * 7 + 3, none⟩ = some (.int .u32 hh.to_) := hc 3 _ rfl
      have c4 : wr.cell? ⟨b, o + m * 7 + 4, none⟩ = some (.int .u16 hh.tport) := hc 4 _ rfl
      have c5 : wr.cell? ⟨b, o + m * 7 + 5, none⟩ = some (.bool hh.stream) := hc 5 _ rfl
      have c6 : wr.cell? ⟨b, o + m * 7 + 6, none⟩ = some (.slice da dn dc) := hc 6 _ rfl
      clear hc
      have hmI : (m : Int) < n := by omega
      have hm0 : 0 ≤ (m : Int) := by omega
      have hle := Lib.hid (less_any wr aa hh (.slice da dn dc) y)
      unfold flV at hle
      go_wp2_with fail
      refine hle.out.mono ?_
      rintro e w2 ⟨rfl, hb2⟩
      have hb3 := Lib.hid (hb.out.trans (hb2.mono hb.out.size))
      clear hb2 hle c0 c1 c2 c3 c4 c5 c6
      by_cases hy : aa ≤ y
      · rw [if_pos hy]
        have h1' : Hid (∀ (k : Nat) (x : FD), k < m + 1 → l[k]? = some x → x.at_ ≤ y) := Lib.hid (by
          intro k z hk hz
          rcases Nat.lt_or_ge k m with hkm | hkm
          · exact Int.le_trans (hs'.out k m hkm z _ hz hxm.out) hy
          · have : k = m := by omega
            subst this
            rw [hxm.out] at hz
            cases hz
            exact hy)
        go_wp2_with fail
        go_roundw
        case rel => exact ⟨m + 1, q, by go_num, rfl, by omega, hqn, h1', h2, hb3⟩
        case measure => simp [intOf]; omega
      · rw [if_neg hy]
        have h2' : Hid (∀ (k : Nat) (x : FD), m ≤ k → l[k]? = some x → y < x.at_) := Lib.hid (by
          intro k z hk hz
          rcases Nat.lt_or_ge m k with hkm | hkm
          · have := hs'.out m k hkm _ z hxm.out hz
            dsimp only at this
            omega
          · have : k = m := by omega
            subst this
            rw [hxm.out] at hz
            cases hz
            dsimp only
            omega)
        go_wp2_with fail
        go_roundw
        case rel => exact ⟨p, m, rfl, rfl, hpm, by omega, h1, h2', hb3⟩
        case measure => simp [intOf]; omega
    · have hpq' : p = q := by omega
      subst hpq'
      by_cases hpn : p < n
      · obtain ⟨b, o, rfl, hbs, hc⟩ := rd_fl (hH.out.ext hb.out) (by omega)
        have hml : p < l.length := by omega
        have hc := hc p hml
        obtain ⟨x, hx⟩ : ∃ x, l[p] = x := ⟨_, rfl⟩
        have hxm : Hid (l[p]? = some x) := Lib.hid (by rw [List.getElem?_eq_getElem hml, hx])
        rw [hx] at hc
        clear hx
        obtain ⟨aa, hh, da, dn, dc⟩ := x
        have c0 : wr.cell? ⟨b, o + p * 7, none⟩ = some (.int .i64 aa) := hc 0 _ rfl
        have c1 : wr.cell? ⟨b, o + p * 7 + 1, none⟩ = some (.int .u32 hh.from_) := hc 1 _ rfl
        have c2 : wr.cell? ⟨b, o + p * 7 + 2, none⟩ = some (.int .u16 hh.fport) := hc 2 _ rfl
        have c3 : wr.cell? ⟨b, o + p * 7 + 3, none⟩ = some (.int .u32 hh.to_) := hc 3 _ rfl
        have c4 : wr.cell? ⟨b, o + p * 7 + 4, none⟩ = some (.int .u16 hh.tport) := hc 4 _ rfl
        have c5 : wr.cell? ⟨b, o + p * 7 + 5, none⟩ = some (.bool hh.stream) := hc 5 _ rfl
        have c6 : wr.cell? ⟨b, o + p * 7 + 6, none⟩ = some (.slice da dn dc) := hc 6 _ rfl
        clear hc
        have hmI : (p : Int) < n := by omega
        have hm0 : 0 ≤ (p : Int) := by omega
        have hle := Lib.hid (less_any wr aa hh (.slice da dn dc) y)
        unfold flV at hle
        rw [if_neg (by have := h2.out p _ (Nat.le_refl _) hxm.out; dsimp only at this; omega)] at hle
        go_wp2_with fail
        refine hle.out.mono ?_
        rintro e w2 ⟨rfl, hb2⟩
        have hb3 := Lib.hid (hb.out.trans (hb2.mono hb.out.size))
        clear hb2 hle c0 c1 c2 c3 c4 c5 c6
        go_wp2_with fail
        refine bodyPost_ret (results_tmp2 rfl _ _ _) rfl ?_
        exact ⟨⟨p, rfl, hqn, h1.out, h2.out⟩, hb3.out⟩
      · have hpn2 : p = n := by omega
        subst hpn2
        go_wp2_with fail
        refine bodyPost_ret (results_tmp2 rfl _ _ _) rfl ?_
        exact ⟨⟨p, rfl, hqn, h1.out, h2.out⟩, hb.out⟩
end Go.Proofs.Ythdnbipfdahnlaa
