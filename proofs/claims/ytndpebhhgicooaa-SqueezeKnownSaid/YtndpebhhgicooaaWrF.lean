/- Set, Cut, Bytes and Name at the writer's bounds; a text as bytes; rdF by fuel. -/
import Derived.Test.YtndpebhhgicooaaAwkE
import Derived.Laws.AppendOwn
namespace Go.Proofs.Ytndpebhhgicooaa
open Go Go.RowKit Go.Maps Go.WideShapes
/-- '[]byte(s)' -/
theorem conv_bytes (w : World) (l : List UInt8) (hl : l.length ≤ maxLen) : ∃ c w', (convert 9 22 (.string (mk l))).run Try.prog w = .ok (.slice (some ⟨w.heap.size, 0, none⟩) l.length c) w' ∧ Rd byteE w' (some ⟨w.heap.size, 0, none⟩) l.length c l ∧ Below w.heap.size w w' := by
  have hcv := run_bytes_of_string (P := Try.prog) w 9 22 5 (mk l) Try.underlying9 Try.underlying22 Try.underlying5
  rw [size_mk] at hcv
  have hge := grownCap_ge w l.length 0 5
  have hle := grownCap_le_maxLen w l.length 0 5 hl
  generalize grownCap w l.length 0 5 = cap at *
  refine ⟨cap, _, hcv, ⟨rfl, hge, hle, fun j hj i hi => ⟨w.heap.size, 0, rfl, ?_⟩⟩, ((Below.refl _ _).alloc (Nat.le_refl _) _).drew⟩
  have hB := Blk.new w.drew 5 ((bytesRow (mk l) cap).size, (bytesRow (mk l) cap).size + 1) (bytesRow (mk l) cap)
  rw [bytesRow_mk] at hB
  have h1 := hB.cell j
  have e : (0 + (j * byteE.k + i) : Nat) = j := by have : i < 1 := hi; show 0 + (j * 1 + i) = j; omega
  have e2 : i = 0 := by have : i < 1 := hi; omega
  rw [e]
  subst e2
  refine Eq.trans h1 ?_
  rw [List.getElem?_append_left (by rw [u8s_length]; exact hj)]
  simp [u8s, byteE, u8, hj]
set_option maxHeartbeats 1000000 in
/-- Bytes where there is no room -/
theorem wr_full {w : World} {lo g : Nat} {B : List UInt8} {nm : Nat} {f : List UInt8 → Option Int} {a : Option Addr} {c mb : Nat} (h : Wr w lo g B nm f a c mb) (ax : Option Addr) (n cx : Nat) (hB : B.length ≤ 65535) (hr : 65535 < B.length + n) :
    Calls Try.prog 28 #[.pointer (some ⟨g, 0, none⟩), .slice ax n cx] w fun e w' => e = .returned (.int .i64 3) ∧ w = w' := by
  have c0 : w.cell? ⟨g, 0, none⟩ = some (.slice a B.length c) := (h.blk.cell 0).trans rfl
  have hbl := Lib.hid h.blk
  have hr' : (65535 : Int) - B.length < n := by omega
  clear h
  go_enter Try.func28, Try.ntmps28
  go_wp2_with fail
  refine (wr_none hbl.out).mono ?_
  rintro e w1 ⟨rfl, rfl⟩
  go_wp2_with fail
  go_ret
  exact ⟨rfl, rfl⟩
set_option maxHeartbeats 1000000 in
theorem put_full {w : World} {lo g : Nat} {B : List UInt8} {nm : Nat} {f : List UInt8 → Option Int} {a : Option Addr} {c mb : Nat} (h : Wr w lo g B nm f a c mb) (ax : Option Addr) (n cx : Nat) (fb : Option Nat) (hB : B.length ≤ 65535) (hr : 65535 < B.length + n) :
    Calls Try.prog 42 #[.pointer (some ⟨g, 0, none⟩), .slice ax n cx, .map fb] w fun e w' => e = .returned (.int .i64 3) ∧ w = w' := by
  have hh := Lib.hid h
  clear h
  go_enter Try.func42, Try.ntmps42
  go_wp2_with fail
  refine (wr_full hh.out ax n cx hB hr).mono ?_
  rintro e w1 ⟨rfl, rfl⟩
  go_wp2_with fail
  go_ret
  exact ⟨rfl, rfl⟩
set_option maxHeartbeats 2000000 in
set_option maxRecDepth 100000 in
/-- the name of no labels where there is no room -/
theorem wr_root_full {w : World} {lo g : Nat} {B : List UInt8} {nm : Nat} {f : List UInt8 → Option Int} {a : Option Addr} {c mb : Nat} (h : Wr w lo g B nm f a c mb) (hB : B.length = 65535) (back : Bool) :
    Calls Try.prog 27 #[.pointer (some ⟨g, 0, none⟩), .slice none 0 0, .bool back] w fun e w' => e = .returned (.int .i64 3) ∧ Below w.heap.size w w' := by
  have hmm := @run_makeMap Try.prog
  have hh := Lib.hid h
  have hB' := Lib.hid hB
  have hck : Hid (checkL [] = 0) := Lib.hid (by decide +kernel)
  clear h hB
  obtain ⟨W1, hW1⟩ : ∃ W1, w.alloc (.map #[] 0) = W1 := ⟨_, rfl⟩
  have hb1 : Below w.heap.size w W1 := by rw [← hW1]; exact (Below.refl _ _).alloc (Nat.le_refl _) _
  go_enter Try.func27, Try.ntmps27
  go_wp2_with fail
  refine (wr_none hh.out.blk).mono ?_
  rintro e w1 ⟨rfl, rfl⟩
  go_wp2_with fail
  refine (check_any (Rd.nil strE w) (by omega)).mono ?_
  rw [hck.out]
  rintro e w1 ⟨rfl, rfl⟩
  go_wp2_with fail
  try rw [hW1]
  have hW1' := Lib.hid hW1
  clear hW1
  go_loopw [8, 27] (fun v8 i wr => v8 = .slice none 0 0 ∧ i = .int .i64 0 ∧ wr = W1) (fun _ _ _ => 0)
  case atStart => exact ⟨rfl, rfl, rfl⟩
  case round =>
    obtain ⟨rfl, rfl, rfl⟩ := hrel
    obtain ⟨i0, hi, hz0, hz1, hz2⟩ := info_parts Try.info5
    have hb1' := Lib.hid hb1
    have hlit := Lib.hid (src_lit (P := Try.prog) (E := byteE) (w := wr) (tx := 22) Try.underlying22 #[.int .u8 0] [0] 1 rfl (by rw [rowOf_byte]; rfl))
    have hb2 := Lib.hid (hb1.alloc hb1.size (.cells #[.int .u8 0] 5))
    clear hb1
    go_wp2_with (at_builtin; refine app_own (E := byteE) rfl (.tmp 99) (.tmp 100) 22 22 rfl Try.underlying22 hi hz0 hz1 hz2 rfl rfl (Own.nil byteE _ w.heap.size) rfl hlit.out ?c1 ?c2 hb2.out.size ?_)
    case c1 => simp [maxLen]
    case c2 => simp
    intro v3 w3 h3 hg3 _
    obtain ⟨a3, c3, e3⟩ := h3.shape
    subst e3
    have hb3 := hb2.out.grown hg3 hb2.out.size (fun j hj => by cases hj)
    have hW3 := Lib.hid (hh.out.ext hb3)
    have hb3' := Lib.hid hb3
    clear h3 hg3 hb3 hlit
    go_wp2_with fail
    refine (put_full hW3.out _ _ _ _ (by have := hB'.out; omega) (by have := hB'.out; simp; omega)).mono ?_
    rintro e w4 ⟨rfl, rfl⟩
    go_wp2_with fail
    go_ret
    exact ⟨rfl, hb3'.out⟩
set_option maxHeartbeats 1000000 in
/-- Set at a place that is too far -/
theorem wr_set1 {w : World} {lo g : Nat} {B : List UInt8} {nm : Nat} {f : List UInt8 → Option Int} {a : Option Addr} {c mb : Nat} (h : Wr w lo g B nm f a c mb) (hB : B.length = 65535) :
    Calls Try.prog 29 #[.pointer (some ⟨g, 0, none⟩), .int .i64 65534, .int .i64 1] w fun e w' => e = .returned (.int .i64 2) ∧ w = w' := by
  have c0 : w.cell? ⟨g, 0, none⟩ = some (.slice a 65535 c) := by rw [← hB]; exact (h.blk.cell 0).trans rfl
  have hbl := Lib.hid h.blk
  clear h hB
  go_enter Try.func29, Try.ntmps29
  go_wp2_with fail
  refine (wr_none hbl.out).mono ?_
  rintro e w1 ⟨rfl, rfl⟩
  go_wp2_with fail
  go_ret
  exact ⟨rfl, rfl⟩
set_option maxHeartbeats 1000000 in
/-- Set of a number that is too large -/
theorem wr_set2 {w : World} {lo g : Nat} {B : List UInt8} {nm : Nat} {f : List UInt8 → Option Int} {a : Option Addr} {c mb : Nat} (h : Wr w lo g B nm f a c mb) :
    Calls Try.prog 29 #[.pointer (some ⟨g, 0, none⟩), .int .i64 0, .int .i64 65536] w fun e w' => e = .returned (.int .i64 2) ∧ w = w' := by
  have hbl := Lib.hid h.blk
  clear h
  go_enter Try.func29, Try.ntmps29
  go_wp2_with fail
  refine (wr_none hbl.out).mono ?_
  rintro e w1 ⟨rfl, rfl⟩
  go_wp2_with fail
  go_ret
  exact ⟨rfl, rfl⟩
set_option maxHeartbeats 1000000 in
theorem wr_cut2 {w : World} {lo g : Nat} {B : List UInt8} {nm : Nat} {f : List UInt8 → Option Int} {a : Option Addr} {c mb : Nat} (h : Wr w lo g B nm f a c mb) (hB : B.length = 1) :
    Calls Try.prog 30 #[.pointer (some ⟨g, 0, none⟩), .int .i64 2] w fun e w' => e = .returned (.int .i64 2) ∧ w = w' := by
  have c0 : w.cell? ⟨g, 0, none⟩ = some (.slice a 1 c) := by rw [← hB]; exact (h.blk.cell 0).trans rfl
  have hbl := Lib.hid h.blk
  clear h hB
  go_enter Try.func30, Try.ntmps30
  go_wp2_with fail
  refine (wr_none hbl.out).mono ?_
  rintro e w1 ⟨rfl, rfl⟩
  go_wp2_with fail
  go_ret
  exact ⟨rfl, rfl⟩
theorem Own.take {α : Type} {E : Enc α} {w : World} {base : Nat} {a : Option Addr} {n c : Nat} {l : List α} (h : Own E w base (.slice a n c) l) (m : Nat) (hm : m ≤ l.length) : Own E w base (.slice a m c) (l.take m) := by
  have hl : (l.take m).length = m := by simp; omega
  rcases h with ⟨e, rfl⟩ | ⟨g, cap, X, e, hg, hB, hX, hle, hmx, ht⟩
  · cases e
    simp at hm
    subst hm
    exact .inl ⟨rfl, rfl⟩
  · cases e
    refine .inr ⟨g, c, X, by rw [hl], hg, hB, hX, by omega, hmx, ?_⟩
    rw [hl]
    have := congrArg (List.take m) ht
    rw [List.take_take] at this
    rwa [Nat.min_eq_left hm] at this
set_option maxHeartbeats 4000000 in
set_option maxRecDepth 100000 in
/-- Cut where no tail is known -/
theorem wr_cut1 {w : World} {lo g : Nat} {B : List UInt8} {nm : Nat} {a : Option Addr} {c mb : Nat} (h : Wr w lo g B nm (fun _ => none) a c mb) (hB : 1 ≤ B.length) (hB2 : B.length ≤ 65535) :
    Calls Try.prog 30 #[.pointer (some ⟨g, 0, none⟩), .int .i64 1] w fun e w' => e = .returned (.int .i64 0) ∧ (∃ a', Wr w' lo g (B.take 1) nm (fun _ => none) a' c mb) ∧ Below lo w w' := by
  have c0 : w.cell? ⟨g, 0, none⟩ = some (.slice a B.length c) := (h.blk.cell 0).trans rfl
  have hbl := Lib.hid h.blk
  have hBI : ¬ (B.length : Int) < 1 := by omega
  have hfr := Lib.hid (h.blk.frozen 0)
  have hh := Lib.hid h
  obtain ⟨gg, rfl⟩ : ∃ gg, a = some ⟨gg, 0, none⟩ := by
    rcases h.own with ⟨e, e2⟩ | ⟨g', cap, X, e, _⟩
    · rw [e2] at hB; simp at hB
    · cases e; exact ⟨_, rfl⟩
  obtain ⟨ao, co, eo, hR⟩ := h.own.rd
  cases eo
  have hBc := hR.cap
  have hBm := hR.most
  simp only [maxLen] at hBm
  have hrun : ∀ u : World, (Instr.slice 22 (.slice (some ⟨gg, 0, none⟩) B.length c) none (some (.int .i64 1)) none).run Try.prog u = .ok (.slice (some ⟨gg, 0, none⟩) 1 c) u := fun u => by
    have ee := elem_of Try.underlying22
    rw [run_slice_h u 22 (some ⟨gg, 0, none⟩) B.length c (by rw [ee]; exact Try.underlying22) .i64 1 (by omega) (by omega), ee, run_sizeOf_info (k := 1) (by kernel_rfl)]
    simp [Result.andThen, sliced, Addr.add]
  clear hR h
  go_enter Try.func30, Try.ntmps30
  go_wp2_with fail
  refine (wr_none hbl.out).mono ?_
  rintro e w1 ⟨rfl, rfl⟩
  have z0 : w.frozen? ⟨g, 0, none⟩ = false := by rw [hfr.out]; simp
  have hl1 : (B.take 1).length = 1 := by simp; omega
  have hW3 : Wr (w.setCell ⟨g, 0, none⟩ (.slice (some ⟨gg, 0, none⟩) 1 c)) lo g (B.take 1) nm (fun _ => none) (some ⟨gg, 0, none⟩) c mb := by
    have hga : ∀ k, (Value.slice (some ⟨gg, 0, none⟩) (B.take 1).length c).ownBlock = some k → k ≠ g ∧ k ≠ mb := fun k hk => hh.out.ga k hk
    refine ⟨?_, ?_, hh.out.map.keep (Below.heap_setCell _ _ _ _ hh.out.gm), hh.out.low, hh.out.lowm, hh.out.gm, hga⟩
    · rw [hl1]; exact hh.out.blk.set 0 _
    · rw [hl1]
      exact (hh.out.own.take 1 hB).keep (fun k hk => Below.heap_setCell _ _ _ _ (hga k (by rw [hl1]; exact hk)).1)
  have hT3 : Below lo w (w.setCell ⟨g, 0, none⟩ (.slice (some ⟨gg, 0, none⟩) 1 c)) := (Below.refl _ _).setCell hh.out.low _
  obtain ⟨W3, hWW⟩ : ∃ W3, w.setCell ⟨g, 0, none⟩ (.slice (some ⟨gg, 0, none⟩) 1 c) = W3 := ⟨_, rfl⟩
  rw [hWW] at hW3 hT3
  have cm : W3.cell? ⟨g, 1, none⟩ = some (.map (some mb)) := (hW3.blk.cell 1).trans rfl
  obtain ⟨D, hown, hD⟩ := hW3.map
  have hW3' := Lib.hid hW3
  have hT3' := Lib.hid hT3
  have hD' := Lib.hid hD
  have hlt3 := Lib.hid hW3.lts
  have hz3 : Hid (lo ≤ W3.heap.size) := Lib.hid (Nat.le_trans hW3.low (Nat.le_of_lt hW3.blk.lt))
  clear hW3 hT3 hD hfr
  go_wp2_with (at_range; refine wpList_range_own _ rfl (.tmp 32) 58 rfl 9 3 key9 Try.underlying58 (plainElem Try.prog 3) mb nm D rfl hown ?_; intro w2 hrg2 hg2 hs2)
  have hW2 : Hid (Wr w2 lo g (B.take 1) nm (fun _ => none) (some ⟨gg, 0, none⟩) c mb) := Lib.hid (hW3'.out.keep (fun k hk _ => hg2.block k hk (fun e => by cases e)))
  have hb2 : Hid (Below lo w w2) := Lib.hid (hT3'.out.grown hg2 hz3.out (fun k hk => by cases hk))
  have hrg2' := Lib.hid hrg2
  clear hrg2 hown hg2
  go_frame
  go_loopw [5] (fun _ wr => ∃ left cnt, Hid (wr.ranges Try.prog 9 (plainElem Try.prog 3) mb W3.heap.size nm D left cnt) ∧ Hid (Wr wr lo g (B.take 1) nm (fun _ => none) (some ⟨gg, 0, none⟩) c mb) ∧ Hid (Below lo w wr)) (fun _ wr => wr.rangeLeft mb W3.heap.size)
  case atStart => exact ⟨_, _, hrg2', hW2, hb2⟩
  case round =>
    obtain ⟨left, cnt, hrg, hW, hT⟩ := hrel
    clear hrg2' hW2 hs2 hb2
    go_wp2_with (at_next; refine wpList_next_ranges _ rfl (.tmp 33) rfl 9 key9 (plainElem Try.prog 3) (fun x : List UInt8 => Value.string (mk x)) (Value.int .i64) (fun key kl hkey => by obtain ⟨s9, rfl, _, _⟩ := Go.WideMaps.string_of_keyOf Try.underlying9 hkey; exact ⟨bs s9, by rw [mk_bs]⟩) (fun v y hv => by obtain ⟨c9, rfl, _⟩ := plainElem_int_inv Try.underlying3 hv; exact ⟨c9, rfl⟩) mb W3.heap.size nm D _ _ rfl hrg.out ?_ ?_)
    · intro hc0 hl0
      go_wp2_with fail
      go_ret
      exact ⟨rfl, ⟨_, hW.out⟩, hT.out⟩
    · intro x v kl yd yp w7 cnt7 hkey hlx hR hat hrg7 hlt7 hg7 hs7 hen
      exfalso
      obtain ⟨hok, rfl⟩ := key_str hkey
      obtain ⟨v', ev, ez, hwv⟩ := plainElem_int_inv Try.underlying3 hR
      cases ev
      cases ez
      rcases hD'.out x hok with ⟨_, q⟩ | ⟨u, q1, _⟩
      · have := hat .nil
        rw [atKey_of_not_has q] at this
        cases this
      · cases q1
/-- rdF by fuel -/
def rdG (b : List UInt8) (back : Bool) : Nat → Nat → Nat → Int → Nm → Option (Option (Nm × Int))
  | 0, _, _, _, _ => none
  | k + 1, p, s, nx, n =>
    if p < b.length then
      if cA b p = 0 then some (some (n, if nx < 0 then (p : Int) + 1 else nx))
      else if 192 ≤ cA b p ∧ back = true ∧ p + 1 < b.length then
        if toA b p < s then rdG b back k (toA b p) (toA b p) (if nx < 0 then (p : Int) + 2 else nx) n else some none
      else if 63 < cA b p ∨ b.length < p + 1 + cA b p then some none
      else if 255 < sizeL (n ++ [labA b p]) then some none
      else rdG b back k (p + 1 + cA b p) s nx (n ++ [labA b p])
    else some none
theorem rdG_eq {b : List UInt8} {back : Bool} : ∀ (k p s : Nat) (nx : Int) (n : Nm) (r : Option (Nm × Int)), rdG b back k p s nx n = some r → rdF b back p s nx n = r
  | 0, p, s, nx, n, r, h => by cases h
  | k + 1, p, s, nx, n, r, h => by
    rw [rdG] at h
    by_cases hp : p < b.length
    · rw [if_pos hp] at h
      by_cases h0 : cA b p = 0
      · rw [if_pos h0] at h
        rw [rd_stop hp h0]
        exact Option.some.inj h
      · rw [if_neg h0] at h
        by_cases hc : 192 ≤ cA b p ∧ back = true ∧ p + 1 < b.length
        · rw [if_pos hc] at h
          by_cases hs : toA b p < s
          · rw [if_pos hs] at h
            rw [rd_jump hp hc.1 hc.2.1 hc.2.2 hs]
            exact rdG_eq k _ _ _ _ _ h
          · rw [if_neg hs] at h
            rw [rd_far hp hc.1 hc.2.1 hc.2.2 (by omega)]
            exact Option.some.inj h
        · rw [if_neg hc] at h
          by_cases hx : 63 < cA b p ∨ b.length < p + 1 + cA b p
          · rw [if_pos hx] at h
            rw [rd_bad hp h0 hc hx]
            exact Option.some.inj h
          · rw [if_neg hx] at h
            by_cases hl : 255 < sizeL (n ++ [labA b p])
            · rw [if_pos hl] at h
              rw [rd_long hp h0 hx hl]
              exact Option.some.inj h
            · rw [if_neg hl] at h
              rw [rd_label hp h0 hx hl]
              exact rdG_eq k _ _ _ _ _ h
    · rw [if_neg hp] at h
      rw [rd_out (by omega)]
      exact Option.some.inj h
end Go.Proofs.Ytndpebhhgicooaa
