/- header.Bytes 14. -/
import Derived.Test.YtbpkhnnfdjihdaaHdFl
import Derived.Test.YtbpkhnnfdjihdaaHdCc
import Derived.Test.YtbpkhnnfdjihdaaNumA
namespace Go.Proofs.Ytbpkhnnfdjihdaa
open Go Go.RowKit Go.Maps
theorem orF_lt {base : Nat} (h : base < 65536) (F : Nat → Bool) : orF base F < 65536 := by
  have hf : ∀ b n, n < 2 ^ 16 → fb b n < 2 ^ 16 := fun b n hn => by unfold fb; split <;> omega
  unfold orF
  exact Nat.or_lt_two_pow (Nat.or_lt_two_pow (Nat.or_lt_two_pow (Nat.or_lt_two_pow (Nat.or_lt_two_pow (Nat.or_lt_two_pow (Nat.or_lt_two_pow h (hf _ _ (by decide))) (hf _ _ (by decide))) (hf _ _ (by decide))) (hf _ _ (by decide))) (hf _ _ (by decide))) (hf _ _ (by decide))) (hf _ _ (by decide))
theorem base_lt {op rc : Nat} (ho : op ≤ 15) (hr : rc ≤ 15) : op * 2048 ||| rc < 65536 := Nat.or_lt_two_pow (n := 16) (by omega) (by omega)
/-- a head by its fields -/
def mV (id op rc : Int) (F : Nat → Bool) (s0 s1 s2 s3 : Value) : Value := .agg #[.int .u16 id, .bool (F 6), .int .i64 op, .bool (F 5), .bool (F 4), .bool (F 3), .bool (F 2), .bool (F 1), .bool (F 0), .int .i64 rc, s0, s1, s2, s3]
def cV (c0 c1 c2 c3 : Int) : Value := .agg #[.int .i64 c0, .int .i64 c1, .int .i64 c2, .int .i64 c3]
set_option maxHeartbeats 2000000 in
set_option maxRecDepth 100000 in
theorem bytes_bad1 {W : World} (id op rc : Int) (F : Nat → Bool) (s0 s1 s2 s3 : Value) (c0 c1 c2 c3 : Int) (h : op < 0 ∨ 15 < op ∨ rc < 0 ∨ 15 < rc) :
    Calls Try.prog 14 #[mV id op rc F s0 s1 s2 s3, cV c0 c1 c2 c3] W fun e w' => e = .returned (.tuple #[.slice none 0 0, .int .i64 2]) ∧ Below W.heap.size W w' := by
  have hb : Below W.heap.size W ((W.alloc (.cells #[.int .u16 id, .bool (F 6), .int .i64 op, .bool (F 5), .bool (F 4), .bool (F 3), .bool (F 2), .bool (F 1), .bool (F 0), .int .i64 rc, s0, s1, s2, s3] 28)).alloc (.cells #[.int .i64 c0, .int .i64 c1, .int .i64 c2, .int .i64 c3] 29)) := ((Below.refl _ _).alloc (Nat.le_refl _) _).alloc (by simp) _
  unfold mV cV
  by_cases h1 : op < 0
  · go_enter Try.func14, Try.ntmps14
    go_wp2_with fail
    go_ret2
    exact ⟨rfl, hb⟩
  · by_cases h2 : 15 < op
    · go_enter Try.func14, Try.ntmps14
      go_wp2_with fail
      go_ret2
      exact ⟨rfl, hb⟩
    · by_cases h3 : rc < 0
      · go_enter Try.func14, Try.ntmps14
        go_wp2_with fail
        go_ret2
        exact ⟨rfl, hb⟩
      · have h4 : 15 < rc := by omega
        clear h
        go_enter Try.func14, Try.ntmps14
        go_wp2_with fail
        go_ret2
        exact ⟨rfl, hb⟩
theorem rd_int {w : World} {a : Option Addr} {n c : Nat} {l : List Int} (h : Rd intE w a n c l) (h0 : 0 < n) : ∃ b o, a = some ⟨b, o, none⟩ ∧ ∀ j (hj : j < l.length), w.cell? ⟨b, o + j, none⟩ = some (.int .i64 l[j]) := by
  obtain ⟨b, o, h1, _, h2⟩ := h.addr h0
  exact ⟨b, o, h1, fun j hj => by have := h2 j hj 0 (by decide); simpa [intE] using this⟩
/-- numbers, two bytes each -/
def be16s (L : List Int) : List UInt8 := L.flatMap fun x => be16 x.toNat
theorem be16s_take (L : List Int) (k : Nat) (h : k < L.length) : be16s (L.take (k + 1)) = be16s (L.take k) ++ be16 L[k].toNat := by
  unfold be16s
  rw [List.take_succ_eq_append_getElem h, List.flatMap_append]
  simp
theorem be16s_len (L : List Int) : (be16s L).length = 2 * L.length := by
  induction L with
  | nil => rfl
  | cons x r ih => simp only [be16s, List.flatMap_cons, List.length_append, List.length_cons] at ih ⊢; rw [ih]; simp [be16]; omega
def ByRes (e : Ending) (w' : World) (base : Nat) (L : List Int) (ok : Bool) : Prop := if ok then ∃ v, e = .returned (.tuple #[v, .int .i64 0]) ∧ Own byteE w' base v (be16s L) else e = .returned (.tuple #[.slice none 0 0, .int .i64 2])
def inR (x : Int) : Bool := decide (0 ≤ x ∧ x ≤ 65535)
set_option maxHeartbeats 8000000 in
set_option maxRecDepth 100000 in
theorem bytes_any {W : World} (id op rc : Nat) (F : Nat → Bool) (s0 s1 s2 s3 : Value) (c0 c1 c2 c3 : Int) (hid : id < 65536) (ho : op ≤ 15) (hr : rc ≤ 15) :
    Calls Try.prog 14 #[mV id op rc F s0 s1 s2 s3, cV c0 c1 c2 c3] W fun e w' => ByRes e w' W.heap.size [(id : Int), (hbits op rc F : Int), c0, c1, c2, c3] (inR c0 && inR c1 && inR c2 && inR c3) ∧ Below W.heap.size W w' := by
  have hb0 : Below W.heap.size W ((W.alloc (.cells #[.int .u16 (id : Int), .bool (F 6), .int .i64 (op : Int), .bool (F 5), .bool (F 4), .bool (F 3), .bool (F 2), .bool (F 1), .bool (F 0), .int .i64 (rc : Int), s0, s1, s2, s3] 28)).alloc (.cells #[.int .i64 c0, .int .i64 c1, .int .i64 c2, .int .i64 c3] 29)) := ((Below.refl _ _).alloc (Nat.le_refl _) _).alloc (by simp) _
  have hsz : ((W.alloc (.cells #[.int .u16 (id : Int), .bool (F 6), .int .i64 (op : Int), .bool (F 5), .bool (F 4), .bool (F 3), .bool (F 2), .bool (F 1), .bool (F 0), .int .i64 (rc : Int), s0, s1, s2, s3] 28)).alloc (.cells #[.int .i64 c0, .int .i64 c1, .int .i64 c2, .int .i64 c3] 29)).heap.size = W.heap.size + 2 := by simp
  have hBm : Blk ((W.alloc (.cells #[.int .u16 (id : Int), .bool (F 6), .int .i64 (op : Int), .bool (F 5), .bool (F 4), .bool (F 3), .bool (F 2), .bool (F 1), .bool (F 0), .int .i64 (rc : Int), s0, s1, s2, s3] 28)).alloc (.cells #[.int .i64 c0, .int .i64 c1, .int .i64 c2, .int .i64 c3] 29)) W.heap.size 28 (0, 0) (cellsH id op rc F [s0, s1, s2, s3]) :=
    (Blk.new W 28 (0, 0) (cellsH id op rc F [s0, s1, s2, s3]).toArray).below ((Below.refl _ _).alloc (Nat.le_refl _) _) (by simp)
  have hBc : Blk ((W.alloc (.cells #[.int .u16 (id : Int), .bool (F 6), .int .i64 (op : Int), .bool (F 5), .bool (F 4), .bool (F 3), .bool (F 2), .bool (F 1), .bool (F 0), .int .i64 (rc : Int), s0, s1, s2, s3] 28)).alloc (.cells #[.int .i64 c0, .int .i64 c1, .int .i64 c2, .int .i64 c3] 29)) (W.heap.size + 1) 29 (0, 0) [.int .i64 c0, .int .i64 c1, .int .i64 c2, .int .i64 c3] := by
    simpa using Blk.new (W.alloc (.cells #[.int .u16 (id : Int), .bool (F 6), .int .i64 (op : Int), .bool (F 5), .bool (F 4), .bool (F 3), .bool (F 2), .bool (F 1), .bool (F 0), .int .i64 (rc : Int), s0, s1, s2, s3] 28)) 29 (0, 0) #[.int .i64 c0, .int .i64 c1, .int .i64 c2, .int .i64 c3]
  have hWW := Lib.hid (And.intro hb0 (And.intro hsz (And.intro hBm hBc)))
  clear hb0 hsz hBm hBc
  have hoI : (op : Int) ≤ 15 := by omega
  have hrI : (rc : Int) ≤ 15 := by omega
  have eor : bits .or .i64 ((op : Int) * 2048) (rc : Int) = ((op * 2048 ||| rc : Nat) : Int) := by
    have := or_i64 (op * 2048) rc (by omega) (by omega)
    rwa [Int.natCast_mul] at this
  have hbl := base_lt ho hr
  unfold mV cV
  go_enter Try.func14, Try.ntmps14
  go_wp2_with fail
  generalize ((W.alloc (.cells #[.int .u16 (id : Int), .bool (F 6), .int .i64 (op : Int), .bool (F 5), .bool (F 4), .bool (F 3), .bool (F 2), .bool (F 1), .bool (F 0), .int .i64 (rc : Int), s0, s1, s2, s3] 28)).alloc (.cells #[.int .i64 c0, .int .i64 c1, .int .i64 c2, .int .i64 c3] 29)) = w0 at *
  obtain ⟨hb0, hsz, hBm, hBc⟩ := hWW.out
  have hzA : W.heap.size + 1 < w0.heap.size := by omega
  clear hWW hsz
  have hBm' := Lib.hid hBm
  have hBc' := Lib.hid hBc
  clear hBm hBc
  refine flags_any.mono ?_
  rintro e w5 ⟨rfl, ⟨D, hown, hD⟩, hb5⟩
  have hz5 := hb5.size
  have hol := hown.lt
  have hD' := Lib.hid hD
  clear hD
  go_wp2_with (at_range; refine wpList_range_own _ rfl (.tmp 38) 56 rfl 3 59 key3 Try.underlying56 (ptrR W.heap.size) w0.heap.size 7 D rfl hown ?_; intro w6 hrg6 hg6 hs6)
  have hall : ∀ j, j < 7 → Maps.has D (.int .i64 (fk j)) = true := fun j hj => by
    rcases hD'.out (fk j) (fk_wf j) with ⟨q, _⟩ | ⟨_, _, _, _, q, _⟩
    · exact absurd rfl (q j hj trivial)
    · exact q
  have hb06 : Below w0.heap.size w0 w6 := hb5.grown hg6 (by omega) (fun k hk => by cases hk)
  clear hb5 hown
  go_frame
  go_loopw [6] (fun bv wr => ∃ left cnt, bv = .int .i64 ((orF (op * 2048 ||| rc) (fun j => !left (.int .i64 (fk j)) && F j) : Nat) : Int) ∧ Hid (wr.ranges Try.prog 3 (ptrR W.heap.size) w0.heap.size w5.heap.size 7 D left cnt) ∧ Below w0.heap.size w0 wr) (fun _ wr => wr.rangeLeft w0.heap.size w5.heap.size)
  case atStart =>
    refine ⟨_, _, ?_, Lib.hid hrg6, hb06⟩
    have : orF (op * 2048 ||| rc) (fun j => !Maps.has D (.int .i64 (fk j)) && F j) = (op * 2048 ||| rc) := by
      rw [orF_ext _ (G := fun _ => false) (fun j hj => by simp [hall j hj])]
      exact orF_none _
    rw [this]
  case round =>
    obtain ⟨left, cnt, rfl, hrg, hb⟩ := hrel
    clear hrg6 hb06 hg6
    go_wp2_with (at_next; refine wpList_next_ranges _ rfl (.tmp 39) rfl 3 key3 (ptrR W.heap.size) (Value.int .i64) (fun o : Nat => Value.pointer (some ⟨W.heap.size, o, none⟩)) (fun key kl hkey => by obtain ⟨x, rfl, _⟩ := Maps.keyOf_int_inv Try.underlying3 hkey; exact ⟨x, rfl⟩) (fun v y h => by obtain ⟨o, h1, _⟩ := ptrR_inv h; exact ⟨o, h1⟩) w0.heap.size w5.heap.size 7 D _ _ rfl hrg.out ?_ ?_)
    · intro hc0 hl0
      have ebits : orF (op * 2048 ||| rc) (fun j => !left (.int .i64 (fk j)) && F j) = hbits op rc F := by
        unfold hbits
        exact orF_ext _ (fun j hj => by simp [hl0])
      rw [ebits]
      have hnb : hbits op rc F < 65536 := orF_lt hbl F
      generalize hNB : hbits op rc F = nb at *
      have hNB' := Lib.hid hNB
      clear hNB
      clear ebits hrg hD' hall
      have hBc9 : Hid (Blk wr (W.heap.size + 1) 29 (0, 0) [.int .i64 c0, .int .i64 c1, .int .i64 c2, .int .i64 c3]) := Lib.hid (hBc'.out.below hb (by omega))
      have hBm9 : Blk wr W.heap.size 28 (0, 0) (cellsH id op rc F [s0, s1, s2, s3]) := hBm'.out.below hb (by omega)
      have cid : wr.cell? ⟨W.heap.size, 0, none⟩ = some (.int .u16 id) := by rw [hBm9.cell]; rfl
      have hidI : IntKind.i64.wrap (id : Int) = id := IntWalk.i64_in _ (by omega)
      clear hBm9 hBm' hBc'
      have hzr := hb.size
      have hlt0 : W.heap.size < wr.heap.size := by omega
      have hbW : Below W.heap.size W wr := hb0.trans (hb.mono (by omega))
      clear hb0 hb
      obtain ⟨wA, rfl⟩ : ∃ wA, wA = wr := ⟨_, rfl⟩
      go_wp2_with fail
      go_region_held3 (fun w' => w'.cell? ⟨W.heap.size, 0, none⟩ = some (.int .u16 id))
        (first | assumption | (simp [*, World.cell?_alloc_some]))
        ((go_at_call 29; refine (concat_two (w1 := wA.drew) (id : Int) (nb : Int) c0 c1 c2 c3 hBc9.out).mono ?_; rintro e w9 ⟨⟨v9, rfl, hO9⟩, hb9⟩; have hs9 : w9.cell? ⟨W.heap.size, 0, none⟩ = some (.int .u16 id) := (hb9.cell (p := ⟨W.heap.size, 0, none⟩) hlt0).trans cid; have hO9' := Lib.hid hO9; clear hO9; obtain ⟨a9, cap9, rfl⟩ := hO9'.out.shape))
      have hzA9 := hb9.size
      have hbW9 : Below W.heap.size W w9 := hbW.drew.trans (hb9.mono (Nat.le_of_lt hlt0))
      obtain ⟨L, hL⟩ : ∃ L : List Int, L = [(id : Int), (nb : Int), c0, c1, c2, c3] := ⟨_, rfl⟩
      have hO6 : Hid (Own intE w9 wA.heap.size (.slice a9 6 cap9) L) := by rw [hL]; exact hO9'
      have hL6 : L.length = 6 := by rw [hL]; rfl
      have hL' := Lib.hid hL
      obtain ⟨i0, hi, hz0, hz1, hz2⟩ := info_parts Try.info5
      clear hO9' hb9 hs9 hBc9 cid hL hbW
      have hRd : Hid (Rd intE w9 a9 6 cap9 L) := Lib.hid (by
        obtain ⟨a, c, e, h⟩ := hO6.out.rd
        rw [hL6] at e h
        cases e
        exact h)
      clear hO6
      go_wp2_with fail
      go_loopw [9, 60] (fun o i wr => ∃ k : Nat, k ≤ 6 ∧ i = .int .i64 k ∧ Own byteE wr w9.heap.size o (be16s (L.take k)) ∧ (∀ x ∈ L.take k, inR x = true) ∧ Below w9.heap.size w9 wr) (fun _ i _ => 6 - (intOf i).toNat)
      case atStart => exact ⟨0, by omega, rfl, Own.nil _ _ _, by simp, Below.refl _ _⟩
      case round =>
        obtain ⟨k, hk, rfl, hO, hA, hb⟩ := hrel
        have hA' := Lib.hid hA
        clear hA
        obtain ⟨a1, cap1, rfl⟩ := hO.shape
        have hO' := Lib.hid hO
        clear hO
        by_cases hlt : k < 6
        · obtain ⟨b, o, rfl, hc⟩ := rd_int hRd.out (by omega)
          have hkI : (k : Int) < 6 := by omega
          have hcb : wr.cell? ⟨b, o + k, none⟩ = some (.int .i64 (L[k]'(by omega))) := (hb.cell (p := ⟨b, o + k, none⟩) (World.block_lt_of_cell? w9 _ (hc k (by omega)))).trans (hc k (by omega))
          have htk := Lib.hid (be16s_take L k (by omega))
          have hmem : L[k]'(by omega) ∈ L := List.getElem_mem _
          have htl := Lib.hid (List.take_succ_eq_append_getElem (l := L) (i := k) (by omega))
          clear hc
          generalize hx : L[k]'(by omega) = x at *
          clear hx
          by_cases hin : inR x = true
          · obtain ⟨n, rfl⟩ : ∃ n : Nat, x = n := ⟨x.toNat, by unfold inR at hin; simp at hin; omega⟩
            have hn : n ≤ 65535 := by unfold inR at hin; simp at hin; omega
            go_wp2_with fail
            refine (put16_ok n wr hn).mono ?_
            rintro e w11 ⟨rfl, hB11, hb11⟩
            have hr11 : Rd byteE w11 (some ⟨wr.heap.size, 0, none⟩) 2 2 (be16 n) := rd_blk (E := byteE) (by rw [rowOf_byte]; exact hB11) 2 rfl (by decide)
            have hsrc := Lib.hid (hr11.src (P := Try.prog) (tx := 22) Try.underlying22)
            have hO11 := Lib.hid (hO'.out.ext hb11)
            have hb12 := hb.trans (hb11.mono hb.size)
            have hlen := Lib.hid (be16s_len (L.take k))
            have hzb := hb12.size
            generalize hD : be16s (L.take k) = D at *
            clear hr11 hB11 hb11 hO'
            go_wp2_with (at_builtin; refine app_own (E := byteE) rfl (.tmp 72) (.tmp 73) 22 22 rfl Try.underlying22 hi hz0 hz1 hz2 rfl rfl hO11.out rfl hsrc.out ?c1 ?c2 ?c3 ?_)
            case c1 => have := hlen.out; rw [List.length_take] at this; simp [maxLen, be16]; omega
            case c2 => have := hlen.out; rw [List.length_take] at this; simp [be16]; omega
            case c3 => exact hzb
            intro v' w12 ho hg _
            have hb13 := own_below hb12 hg hO11.out hzb (Nat.le_refl _)
            have hO12 := Lib.hid ho
            clear ho hg hsrc
            go_wp2_with fail
            go_roundw
            case rel =>
              refine ⟨k + 1, by omega, by go_num, ?_, ?_, hb13⟩
              · rw [htk.out]; exact hO12.out
              · rw [htl.out]
                intro y hy
                rcases List.mem_append.1 hy with hy | hy
                · exact hA'.out y hy
                · rw [List.mem_singleton.1 hy]; exact hin
            case measure => simp [intOf]; omega
          · have hno : x < 0 ∨ 65535 < x := by unfold inR at hin; simp at hin; omega
            go_wp2_with fail
            refine (put16_no x wr hno).mono ?_
            rintro e w11 ⟨rfl, rfl⟩
            go_wp2_with fail
            go_ret2
            refine ⟨?_, hbW9.trans (hb.mono hbW9.size)⟩
            have hbad : ¬ (inR c0 && inR c1 && inR c2 && inR c3) = true := by
              intro h
              simp only [Bool.and_eq_true] at h
              rw [hL'.out] at hmem
              have hidR : inR (id : Int) = true := by unfold inR; simp; omega
              have hnbR : inR (nb : Int) = true := by unfold inR; simp; omega
              simp only [List.mem_cons, List.not_mem_nil, or_false] at hmem
              rcases hmem with rfl | rfl | rfl | rfl | rfl | rfl <;> simp_all
            unfold ByRes
            rw [if_neg hbad]
            rfl
        · have hk6 : k = 6 := by omega
          subst hk6
          rw [List.take_of_length_le (by omega)] at hO' hA'
          go_wp2_with fail
          go_ret2
          refine ⟨?_, hbW9.trans (hb.mono hbW9.size)⟩
          have hgood : (inR c0 && inR c1 && inR c2 && inR c3) = true := by
            have := hA'.out
            rw [hL'.out] at this
            simp only [Bool.and_eq_true]
            exact ⟨⟨⟨this c0 (by simp), this c1 (by simp)⟩, this c2 (by simp)⟩, this c3 (by simp)⟩
          unfold ByRes
          rw [if_pos hgood]
          rw [hNB'.out, ← hL'.out]
          refine ⟨.slice a1 (be16s L).length cap1, ?_, hO'.out.mono hbW9.size⟩
          have e6 : List.take 6 L = L := List.take_of_length_le (by omega)
          simp only [e6]
          rfl
    · intro x o kl yd yp w7 cnt7 hkey hlx hR hat hrg7 hlt7 hg7 hs7 hen
      obtain ⟨x', ex, rfl, hwx⟩ := Maps.keyOf_int_inv Try.underlying3 hkey
      cases ex
      rw [ptrR_mk] at hR
      obtain rfl : yd = .lit (.int .i64 o) := by simp at hR; exact hR.1.symm
      obtain ⟨j, hj, rfl, rfl⟩ : ∃ j, j < 7 ∧ x = fk j ∧ o = fo j := by
        rcases hD'.out x hwx with ⟨_, q⟩ | ⟨j, hj, _, q1, _, q2⟩
        · have := hat .nil; rw [atKey_of_not_has q] at this; cases this
        · have := (hat .nil).symm.trans (q2 .nil)
          simp at this
          exact ⟨j, hj, q1, by omega⟩
      have hBm7 : Blk w7 W.heap.size 28 (0, 0) (cellsH id op rc F [s0, s1, s2, s3]) := (hg7.block _ (by have := hb.size; omega) (fun e => by simp at e; omega)).trans (hBm'.out.below hb (by omega))
      have cj : w7.cell? ⟨W.heap.size, fo j, none⟩ = some (.bool (F j)) := by rw [hBm7.cell]; exact cellsH_get _ _ _ _ _ j hj
      have hlt := orF_lt hbl (fun j => !left (.int .i64 (fk j)) && F j)
      have ej := or_i64 _ (fk j) hlt (fk_lt j)
      have hst := orF_step (op * 2048 ||| rc) (fun j => !left (.int .i64 (fk j)) && F j) j hj
      have hm : w7.rangeLeft w0.heap.size w5.heap.size < wr.rangeLeft w0.heap.size w5.heap.size := by rw [hrg7.left_eq, hrg.out.left_eq]; exact hlt7
      have hb7 : Below w0.heap.size w0 w7 := hb.grown hg7 hb.size (fun k hk => by cases hk; omega)
      have hst1 : Hid (F j = true → orF (op * 2048 ||| rc) (fun j => !left (.int .i64 (fk j)) && F j) ||| fk j = orF (op * 2048 ||| rc) (fun i => !(left (.int .i64 (fk i)) && !(Lit.int .i64 (fk i)).sameKey (.int .i64 (fk j))) && F i)) := Lib.hid (by
        intro hF
        rw [hst]
        refine orF_ext _ (fun i hi => ?_)
        by_cases hij : i = j
        · subst hij; simp [Lit.sameKey, hF]
        · have t1 : fk i ≠ fk j := fun e => hij (fk_inj hi hj e)
          have t2 : ¬ (fk i : Int) = (fk j : Int) := by omega
          simp [hij, Lit.sameKey, t2])
      have hst0 : Hid (F j = false → orF (op * 2048 ||| rc) (fun j => !left (.int .i64 (fk j)) && F j) = orF (op * 2048 ||| rc) (fun i => !(left (.int .i64 (fk i)) && !(Lit.int .i64 (fk i)).sameKey (.int .i64 (fk j))) && F i)) := Lib.hid (by
        intro hF
        refine orF_ext _ (fun i hi => ?_)
        by_cases hij : i = j
        · subst hij; simp [hF]
        · have t1 : fk i ≠ fk j := fun e => hij (fk_inj hi hj e)
          have t2 : ¬ (fk i : Int) = (fk j : Int) := by omega
          simp [Lit.sameKey, t2])
      have hrg9 := Lib.hid hrg7
      clear hrg7 hrg hBm7 hst
      generalize hO : orF (op * 2048 ||| rc) (fun j => !left (.int .i64 (fk j)) && F j) = O at *
      cases hF : F j with
      | true =>
        rw [hF] at cj
        go_wp2_with fail
        go_roundw
        case rel => exact ⟨_, _, by rw [hst1.out hF], hrg9, hb7⟩
        case measure => exact hm
      | false =>
        rw [hF] at cj
        go_wp2_with fail
        go_roundw
        case rel => exact ⟨_, _, by rw [hst0.out hF], hrg9, hb7⟩
        case measure => exact hm
end Go.Proofs.Ytbpkhnnfdjihdaa
