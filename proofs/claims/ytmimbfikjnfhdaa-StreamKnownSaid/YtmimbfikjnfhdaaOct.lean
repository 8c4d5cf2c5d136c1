/- Parts taken over from other seats. -/
import Derived.Test.YtmimbfikjnfhdaaProg
import Derived.Test.YtmimbfikjnfhdaaCut
import Derived.Deep.RegionWith
import Derived.Laws.MakeOwn
import Derived.Deep.RegionHeld3
import Derived.Laws.BitsAllLaws
namespace Go.Proofs.Ytmimbfikjnfhdaa
open Go.RowKit
theorem Try.info5 : (Try.prog.info? 5).map (fun i => (i.zero, i.size, i.bytes)) = some (some (.int .u8 0), 1, 1) := by kernel_rfl
theorem Try.info41 : (Try.prog.info? 41).map (fun i => (i.zero, i.size, i.bytes)) = some (some (.slice none 0 0), 1, 24) := by kernel_rfl
/-- the builtin copy into a row of one-cell elements -/
theorem copy_row {α : Type} {P : Program} {E : Enc α} (hk1 : E.k = 1) {ops : Array Oper} {rest : List Oper} {o : Oper} {a : Act} {Q : Exit → Act → World → Prop} {W : World} (hgd : o.guard = none) (d s : Operand) (dT sT : TypeId)
    (ho : o.op = .call { callee := .builtin .copy, args := #[d, s], argTypes := #[dT, sT] }) (hu : P.underlying dT = some (.slice E.e)) (hsz : (P.info? E.e).map (·.size) = some 1)
    {g off dLen dCap n c : Nat} {ao : Option Addr} {l : List α} {C : List Value} (hd : a.eval d = .slice (some ⟨g, off, none⟩) dLen dCap) (hs : a.eval s = .slice ao n c)
    (hB : Blk W g E.e (0, 0) C) (hr : Rd E W ao n c l) (hn : n ≤ dLen) (hfit : off + n ≤ C.length)
    (h : ∀ w', Blk w' g E.e (0, 0) (splice C off (rowOf E l)) → W.grownBy w' (some g) → wpList P ops Q rest (a.put o.dst (goInt n)) w') : wpList P ops Q (o :: rest) a W := by
  have hl := hr.len
  have hrl : (rowOf E l).length = n := by rw [rowOf_length, hk1, hl, Nat.mul_one]
  by_cases h0 : 0 < n
  · obtain ⟨b, o', rfl, _, hc⟩ := hr.addr h0
    refine wpList_copy_own hgd d s dT sT ho E.e hu hsz g off dLen dCap ⟨b, o', none⟩ n c hd hs ⟨C⟩ E.e hB (rowOf E l) (by rw [hrl]; exact (Nat.min_eq_left hn).symm) (rd_cells hc) (by rw [hrl]; exact hfit) (rowOf_one E l) ?_
    rw [hrl]
    refine h _ ?_ ⟨rfl, rfl, rfl, by simp, fun k _ hk => setRow_other W g k _ (fun e => hk (by rw [e]))⟩
    have := setRow_heap W g ⟨C⟩ (splice C off (rowOf E l)).toArray E.e _ hB
    unfold splice at this ⊢
    rw [hrl] at this ⊢
    exact this
  · have hn0 : n = 0 := by omega
    subst hn0
    have : l = [] := List.eq_nil_of_length_eq_zero hl
    subst this
    refine wpList_copy_nothing hgd d s dT sT ho E.e hu hsz _ _ dLen dCap 0 c hd hs (by simp) ?_
    refine h W ?_ ⟨rfl, rfl, rfl, Nat.le_refl _, fun _ _ _ => rfl⟩
    simpa [splice, rowOf] using hB
theorem madeCells_one (z : Value) (n : Nat) : (madeCells #[z] n).toList = List.replicate n z := toList_madeCells_one z n
theorem same_bytes {w : World} {a a' : Option Addr} {n c n' c' : Nat} {l l' : List UInt8} (h : Rd byteE w a n c l) (h' : Rd byteE w a' n' c' l') :
    Calls Try.prog 21 #[.slice a n c, .slice a' n' c'] w fun e w' => e = .returned (.bool (l == l')) ∧ w = w' := by
  have e1 := rd_toStr (P := Try.prog) h 41 9 Try.underlying41 Try.underlying5 Try.underlying9
  have e2 := rd_toStr (P := Try.prog) h' 41 9 Try.underlying41 Try.underlying5 Try.underlying9
  clear h h'
  go_enter Try.func21, Try.ntmps21
  go_wp2
  go_ret
  exact ⟨rfl, rfl⟩
theorem copy_bytes {w : World} {a : Option Addr} {n c : Nat} {l : List UInt8} (h : Rd byteE w a n c l) (hn : n ≤ 140737488355328) :
    Calls Try.prog 44 #[.slice a n c] w fun e w' => (∃ v, e = .returned v ∧ Own byteE w' w.heap.size v l) ∧ Below w.heap.size w w' := by
  obtain ⟨i0, hi, hz0, hz1, hz2⟩ := info_parts Try.info5
  have hl := h.len
  have hown := Own.made byteE w #[] [] 0 rfl rfl (by simp [maxLen])
  have hsrc := (h.ext ((Below.refl _ w).alloc (Nat.le_refl _) (.cells #[] 5))).src (P := Try.prog) Try.underlying41
  have hH := Lib.hid h; clear h
  go_enter Try.func44, Try.ntmps44
  go_wp2_with (at_builtin; refine app_own (E := byteE) rfl (.tmp 3) (.tmp 4) 41 41 rfl Try.underlying41 hi hz0 hz1 hz2 rfl rfl hown rfl hsrc ?c1 ?c2 ?c3 ?_)
  case c1 => simp [maxLen]; omega
  case c2 => simp; omega
  case c3 => simp
  intro v' w2 ho hg _
  obtain ⟨a', c', rfl⟩ := ho.shape
  go_wp2
  go_ret
  exact ⟨⟨_, rfl, by simpa using ho⟩, own_below ((Below.refl _ _).alloc (Nat.le_refl _) _) hg hown (by simp) (Nat.le_refl _)⟩
theorem rd_blk {α : Type} {E : Enc α} {w : World} {g : Nat} {fz : Nat × Nat} {X : List α} (h : Blk w g E.e fz (rowOf E X)) (n : Nat) (hn : n = X.length) (hm : n ≤ maxLen) : Rd E w (some ⟨g, 0, none⟩) n n X := by
  subst hn
  refine ⟨rfl, Nat.le_refl _, hm, fun j hj i hi => ⟨g, 0, rfl, ?_⟩⟩
  rw [h.cell, Nat.zero_add, rowOf_get E X j i hj hi]
def numL (l : List UInt8) : Nat := l.foldl (fun n c => n * 256 + c.toNat) 0
theorem numL_snoc (l : List UInt8) (c : UInt8) : numL (l ++ [c]) = numL l * 256 + c.toNat := by simp [numL]
theorem numF_lt : ∀ (l : List UInt8) (a : Nat), l.foldl (fun n c => n * 256 + c.toNat) a < (a + 1) * 256 ^ l.length
  | [], a => by simp
  | c :: l, a => by
    have h := numF_lt l (a * 256 + c.toNat)
    have hc := c.toNat_lt
    rw [List.foldl_cons, List.length_cons, Nat.pow_succ]
    have : (a * 256 + c.toNat + 1) * 256 ^ l.length ≤ (a + 1) * 256 * 256 ^ l.length := Nat.mul_le_mul_right _ (by omega)
    rw [Nat.mul_comm (256 ^ l.length) 256, ← Nat.mul_assoc]; omega
theorem numL_lt (l : List UInt8) : numL l < 256 ^ l.length := by have := numF_lt l 0; simpa [numL] using this
theorem numL_lt4 (l : List UInt8) (h : l.length ≤ 4) : numL l < 4294967296 := by
  have h1 := numL_lt l
  have : 256 ^ l.length ≤ 256 ^ 4 := Nat.pow_le_pow_right (by decide) h
  omega
theorem numL_lt3 (l : List UInt8) (h : l.length ≤ 3) : numL l < 16777216 := by
  have h1 := numL_lt l
  have : 256 ^ l.length ≤ 256 ^ 3 := Nat.pow_le_pow_right (by decide) h
  omega
theorem numL_take (l : List UInt8) (k : Nat) (h : k < l.length) : numL (l.take (k + 1)) = numL (l.take k) * 256 + l[k].toNat := by
  rw [List.take_succ_eq_append_getElem h, numL_snoc]
theorem or_byte (N : Nat) (c : UInt8) (h : N < 16777216) : bits BinOp.or IntKind.u32 ((N : Int) * 256) (c.toNat : Int) = ((N * 256 + c.toNat : Nat) : Int) := by
  have hc := c.toNat_lt
  have h1 := u32_or_nat (N * 256) c.toNat (by omega) (by omega)
  rw [nat_join 8 (N * 256) c.toNat (by omega) (by omega)] at h1
  rw [← h1]; congr 1; 
set_option maxHeartbeats 2000000 in
set_option maxRecDepth 100000 in
theorem number_no {w : World} {a : Option Addr} {n c : Nat} (p : Int) (size : Nat) (hp : -9223372036854775808 ≤ p ∧ p ≤ 9223372036854775807) (hs : size ≤ 4) (hno : ¬ (0 ≤ p ∧ p ≤ n ∧ (size : Int) ≤ n - p)) :
    Calls Try.prog 47 #[.slice a n c, .int .i64 p, .int .i64 size] w fun e w' => e = .returned (.tuple #[.int .u32 0, .bool false]) ∧ w = w' := by
  by_cases h1 : p < 0
  · clear hno
    go_enter Try.func47, Try.ntmps47
    go_wp2_with fail
    go_ret2
    exact ⟨rfl, rfl⟩
  · by_cases h2 : (n : Int) < p
    · clear hno
      go_enter Try.func47, Try.ntmps47
      go_wp2_with fail
      go_ret2
      exact ⟨rfl, rfl⟩
    · have h3 : (n : Int) - p < size := by omega
      clear hno hp
      go_enter Try.func47, Try.ntmps47
      go_wp2_with fail
      go_ret2
      exact ⟨rfl, rfl⟩
set_option maxHeartbeats 2000000 in
set_option maxRecDepth 100000 in
theorem number_yes {w : World} {a : Option Addr} {n c : Nat} {l : List UInt8} (h : Rd byteE w a n c l) (p size : Nat) (hs : size ≤ 4) (hn : n ≤ 140737488355328) (_hc : c ≤ 9223372036854775807) (hy : p + size ≤ n) :
    Calls Try.prog 47 #[.slice a n c, .int .i64 p, .int .i64 size] w fun e w' => e = .returned (.tuple #[.int .u32 (numL ((l.drop p).take size)), .bool true]) ∧ w = w' := by
  have hsz1 : (Try.prog.info? byteE.e).map (·.size) = some byteE.k := by kernel_rfl
  obtain ⟨a', hsl, hr⟩ := cut_lh (P := Try.prog) h 41 Try.underlying41 hsz1 .i64 .i64 p ((p : Int) + size) p (p + size) rfl (by omega) (by omega) hy
  have hd : (l.take (p + size)).drop p = (l.drop p).take size := by rw [List.drop_take]; congr 1; omega
  rw [hd, show p + size - p = size by omega] at hr
  rw [show p + size - p = size by omega] at hsl
  generalize hq : (l.drop p).take size = q at *
  have hql := hr.len
  have hQ := Lib.hid hr; clear hr hd hq
  have hcap := h.cap
  clear h
  have hqL := Lib.hid hql; clear hql
  go_enter Try.func47, Try.ntmps47
  go_wp2_with fail
  go_loop [8, 34] (fun v i => ∃ k : Nat, k ≤ size ∧ i = .int .i64 k ∧ v = .int .u32 (numL (q.take k)))
    (fun _ i => size - (intOf i).toNat)
  case atStart => exact ⟨0, Nat.zero_le _, rfl, by simp [numL]⟩
  case round =>
    obtain ⟨k, hk, rfl, rfl⟩ := hrel
    by_cases hlt : k < size
    · have hkq : k < q.length := by rw [hqL.out]; exact hlt
      obtain ⟨b, o, rfl, hcl⟩ := rd_byte hQ.out (by omega)
      have hcell := hcl k hkq
      clear hcl
      have hst := Lib.hid (numL_take q k hkq)
      have hlt3 := numL_lt3 (q.take k) (by simp; omega)
      have hb : (q[k].toNat : Int) < 256 := by have := q[k].toNat_lt; omega
      go_wp2_with fail
      rw [or_byte _ _ hlt3]
      go_round
      case rel => exact ⟨k + 1, by omega, by go_num, by rw [hst.out]⟩
      case measure => simp [intOf]; omega
    · have hk' : q.take k = q := List.take_of_length_le (by have := hqL.out; omega)
      rw [hk']
      clear hk'
      go_wp2_with fail
      go_ret2
      exact ⟨rfl, rfl⟩
def be16 (n : Nat) : List UInt8 := [UInt8.ofNat (n / 256), UInt8.ofNat (n % 256)]
theorem u8_of (n : Nat) (h : n < 256) : ((UInt8.ofNat n).toNat : Int) = n := by simp; omega
theorem u8_lit (n : Nat) (h : n < 256) : Value.int .u8 (n : Int) = u8 (UInt8.ofNat n) := by unfold u8; rw [u8_of n h]
theorem be16_row (n : Nat) (hn : n ≤ 65535) : [Value.int .u8 ((n : Int) / 256), .int .u8 ((n : Int) % 256)] = u8s (be16 n) := by
  have e1 := u8_lit (n / 256) (by omega)
  have e2 := u8_lit (n % 256) (by omega)
  simp only [be16, u8s, List.map_cons, List.map_nil, ← e1, ← e2]; rfl
def numP (l : List UInt8) (p : Int) (k : Nat) : Nat × Bool := if 0 ≤ p ∧ p + k ≤ l.length then (numL ((l.drop p.toNat).take k), true) else (0, false)
theorem put16_ok (n : Nat) (w : World) (hn : n ≤ 65535) :
    Calls Try.prog 39 #[.int .i64 n] w fun e w' => e = .returned (.tuple #[.slice (some ⟨w.heap.size, 0, none⟩) 2 2, .int .i64 0]) ∧ Blk w' w.heap.size 5 (0, 0) (u8s (be16 n)) ∧ Below w.heap.size w w' := by
  go_enter Try.func39, Try.ntmps39
  go_wp2_with fail
  go_ret2
  refine ⟨rfl, ?_, (Below.refl _ _).alloc (Nat.le_refl _) _⟩
  rw [← be16_row n hn]
  exact Blk.new w 5 (0, 0) #[Value.int .u8 ((n : Int) / 256), .int .u8 ((n : Int) % 256)]
theorem put16_no (n : Int) (w : World) (hn : n < 0 ∨ 65535 < n) :
    Calls Try.prog 39 #[.int .i64 n] w fun e w' => e = .returned (.tuple #[.slice none 0 0, .int .i64 2]) ∧ w = w' := by
  rcases hn with h | h
  · go_enter Try.func39, Try.ntmps39
    go_wp2_with fail
    go_ret2
    exact ⟨rfl, rfl⟩
  · have h2 : ¬ n < 0 := by omega
    go_enter Try.func39, Try.ntmps39
    go_wp2_with fail
    go_ret2
    exact ⟨rfl, rfl⟩
set_option maxRecDepth 100000 in
theorem u16_any {w : World} {a : Option Addr} {n c : Nat} {l : List UInt8} (h : Rd byteE w a n c l) (p : Int) (hp : -9223372036854775808 ≤ p ∧ p ≤ 9223372036854775807) (hn : n ≤ 140737488355328) :
    Calls Try.prog 42 #[.slice a n c, .int .i64 p] w fun e w' => e = .returned (.tuple #[.int .i64 (numP l p 2).1, .bool (numP l p 2).2]) ∧ w = w' := by
  have hl := h.len
  have hcm := h.most
  simp only [maxLen] at hcm
  have hH := Lib.hid h
  clear h
  by_cases hy : 0 ≤ p ∧ p + (2 : Nat) ≤ n
  · obtain ⟨q, rfl⟩ : ∃ q : Nat, p = q := ⟨p.toNat, by omega⟩
    have hN : numP l q 2 = (numL ((l.drop q).take 2), true) := by unfold numP; rw [hl, if_pos hy]; rfl
    have hlt := numL_lt ((l.drop q).take 2)
    have hlen : ((l.drop q).take 2).length = 2 := by simp; omega
    rw [hlen] at hlt
    have hlt : numL ((l.drop q).take 2) < 65536 := hlt
    have hN' := Lib.hid hN
    clear hN hlen hl
    go_enter Try.func42, Try.ntmps42
    go_wp2_with fail
    refine (number_yes hH.out q 2 (by omega) hn hcm (by omega)).mono ?_
    generalize numL ((l.drop q).take 2) = N at *
    rintro e w1 ⟨rfl, rfl⟩
    go_wp2_with fail
    go_ret2
    exact ⟨by rw [hN'.out]; rfl, rfl⟩
  · have hN : numP l p 2 = (0, false) := by unfold numP; rw [hl, if_neg hy]
    have hN' := Lib.hid hN
    have hno : ¬ (0 ≤ p ∧ p ≤ n ∧ ((2 : Nat) : Int) ≤ n - p) := fun h => hy ⟨h.1, by omega⟩
    clear hN hl hy
    go_enter Try.func42, Try.ntmps42
    go_wp2_with fail
    refine (number_no p 2 hp (by omega) hno).mono ?_
    rintro e w1 ⟨rfl, rfl⟩
    go_wp2_with fail
    go_ret2
    exact ⟨by rw [hN'.out]; rfl, rfl⟩
theorem flat_take (Xs : List (List UInt8)) (k : Nat) (h : k < Xs.length) : (Xs.take (k + 1)).flatten = (Xs.take k).flatten ++ Xs[k] := by
  rw [List.take_succ_eq_append_getElem h, List.flatten_append]; simp
theorem flat_le (Xs : List (List UInt8)) (k : Nat) : (Xs.take k).flatten.length ≤ Xs.flatten.length := by
  have := congrArg List.length (congrArg List.flatten (List.take_append_drop k Xs))
  rw [List.flatten_append, List.length_append] at this; omega
set_option maxHeartbeats 4000000 in
set_option maxRecDepth 100000 in
theorem octJoin {w : World} {gl : Nat} (vals : List Value) (Xs : List (List UInt8)) (hG : Blk w gl 41 (0, 0) vals) (hl : vals.length = Xs.length) (hv : ∀ (j : Nat) (X : List UInt8), Xs[j]? = some X → ∃ a n c, vals[j]? = some (.slice a n c) ∧ Rd byteE w a n c X) (hsum : Xs.flatten.length ≤ 140737488355328) (hN : Xs.length ≤ 100) :
    Calls Try.prog 40 #[.slice (some ⟨gl, 0, none⟩) Xs.length Xs.length] w fun e w' => (∃ v, e = .returned v ∧ Own byteE w' w.heap.size v Xs.flatten) ∧ Below w.heap.size w w' := by
  obtain ⟨i0, hi, hz0, hz1, hz2⟩ := info_parts Try.info5
  have hG' := Lib.hid hG
  have hv' := Lib.hid hv
  have hs' := Lib.hid hsum
  clear hG hv hsum
  generalize hNN : Xs.length = N at *
  have hNh := Lib.hid hNN
  clear hNN
  go_enter Try.func40, Try.ntmps40
  go_wp2_with fail
  go_loopw [3, 8] (fun v i wr => ∃ k : Nat, k ≤ N ∧ i = .int .i64 k ∧ Own byteE wr w.heap.size v (Xs.take k).flatten ∧ Below w.heap.size w wr)
    (fun _ i _ => N - (intOf i).toNat)
  case atStart => exact ⟨0, Nat.zero_le _, rfl, Own.nil _ _ _, Below.refl _ _⟩
  case round =>
    obtain ⟨k, hk, rfl, ho, hb⟩ := hrel
    obtain ⟨a1, cap1, rfl⟩ := ho.shape
    have ho' := Lib.hid ho
    clear ho
    by_cases hlt : k < N
    · have hkx : k < Xs.length := by rw [hNh.out]; exact hlt
      obtain ⟨a, n, c, hc1, hr⟩ := hv'.out k Xs[k] (List.getElem?_eq_getElem hkx)
      have hcell : wr.cell? ⟨gl, k, none⟩ = some (.slice a n c) := (hb.cell (p := ⟨gl, k, none⟩) hG'.out.lt).trans (by rw [hG'.out.cell]; exact hc1)
      have hsrc := Lib.hid ((hr.ext hb).src (P := Try.prog) (tx := 41) Try.underlying41)
      have htk := flat_take Xs k hkx
      have hle := flat_le Xs (k + 1)
      rw [htk, List.length_append] at hle
      have htk' := Lib.hid htk
      have hkI : (k : Int) < N := by omega
      generalize hX : Xs[k] = X at *
      generalize hD : (Xs.take k).flatten = D at *
      have hle' := Lib.hid hle
      clear hc1 htk hle hr hD hX
      go_wp2_with (at_builtin; refine app_own (E := byteE) rfl (.tmp 12) (.tmp 13) 41 41 rfl Try.underlying41 hi hz0 hz1 hz2 rfl rfl ho'.out rfl hsrc.out ?c1 ?c2 hb.size ?_)
      case c1 => have := hle'.out; have := hs'.out; simp [maxLen]; omega
      case c2 => have := hle'.out; have := hs'.out; simp; omega
      intro v3 w3 h3 hg3 _
      obtain ⟨a3, cap3, hv3⟩ := h3.shape
      subst hv3
      have hb3 : Below w.heap.size w w3 := own_below hb hg3 ho'.out hb.size (Nat.le_refl _)
      have h3' := Lib.hid h3
      clear h3
      go_wp2_with fail
      go_roundw
      case rel => exact ⟨k + 1, by omega, by go_num, by rw [htk'.out]; simpa using h3'.out, hb3⟩
      case measure => simp [intOf]; omega
    · have hk' : Xs.take k = Xs := List.take_of_length_le (by have := hNh.out; omega)
      rw [hk'] at ho'
      have hk2 : k = N := by omega
      subst hk2
      rw [hk']
      clear hk'
      go_wp2_with fail
      go_ret
      exact ⟨⟨_, rfl, ho'.out⟩, hb⟩
theorem numL_be16 (n : Nat) (h : n ≤ 65535) : numL (be16 n) = n := by
  simp only [numL, be16, List.foldl_cons, List.foldl_nil, UInt8.toNat_ofNat']
  omega
set_option maxHeartbeats 1000000 in
theorem pick_any (x n : Int) (w : World) (hn : 1 ≤ n) (hn2 : n ≤ 1152921504606846976) :
    Calls Try.prog 33 #[.int .i64 x, .int .i64 n] w fun e w' => e = .returned (.int .i64 (x % n)) ∧ w = w' := by
  have hm : -n < x.tmod n ∧ x.tmod n < n := by
    have a := Int.tmod_lt_of_pos x (b := n) (by omega)
    have b := Int.lt_tmod_of_pos x (b := n) (by omega)
    exact ⟨b, a⟩
  have hw : IntKind.i64.wrap (x.tmod n) = x.tmod n := by rw [IntKind.wrap_i64]; omega
  have hn0 : ¬ n = 0 := by omega
  by_cases c : x.tmod n < 0
  · have hr : x % n = x.tmod n + n := by
      have := Int.tmod_eq_emod (a := x) (b := n)
      have e0 := Int.emod_nonneg x hn0
      have e1 := Int.emod_lt_of_pos x (b := n) (by omega)
      split at this <;> omega
    go_enter Try.func33, Try.ntmps33
    go_wp2_with fail
    go_ret
    exact ⟨by rw [hr]; rfl, rfl⟩
  · have hr : x % n = x.tmod n := by
      have := Int.tmod_eq_emod (a := x) (b := n)
      have e0 := Int.emod_nonneg x hn0
      have e1 := Int.emod_lt_of_pos x (b := n) (by omega)
      split at this <;> omega
    go_enter Try.func33, Try.ntmps33
    go_wp2_with fail
    go_ret
    exact ⟨rfl, rfl⟩
end Go.Proofs.Ytmimbfikjnfhdaa
