/- The program's picker: Choose 11; pickers that are none. -/
import Derived.Test.YtjkeijjfjbcaiaaPkH
namespace Go.Proofs.Ytjkeijjfjbcaiaa
open Go.RowKit
set_option maxHeartbeats 4000000 in
set_option maxRecDepth 100000 in
theorem min24 {w : World} {p : Nat} {room : Int} {v : Value} {L : List Kn} (h : Pk w p room v L) (hl : L.length ≤ 100000) {q r : Nat} {now : Int} (hq : w.cell? ⟨q, 0, none⟩ = some (.pointer (some ⟨p, 0, none⟩))) (hr : w.cell? ⟨r, 0, none⟩ = some (.int .i64 now))
    {a : Option Addr} {n c : Nat} {l : List Int} (hR : Rd u32E w a n c l) (h0 : 0 < n) :
    Calls Try.prog 24 #[.slice a n c, .func (.func 25) #[] #[.pointer (some ⟨q, 0, none⟩), .pointer (some ⟨r, 0, none⟩)]] w fun e w' => e = .returned (.int .u32 (chooseK L now l)) ∧ Below w.heap.size w w' := by
  have hln := hR.len
  have hq0 := World.block_lt_of_cell? w _ hq
  have hr0 := World.block_lt_of_cell? w _ hr
  obtain ⟨b, o, rfl, hbs, hc⟩ := rd_u32 hR h0
  have h' := Lib.hid h
  have hl' := Lib.hid hl
  have hq' := Lib.hid hq
  have hr' := Lib.hid hr
  have hc' := Lib.hid hc
  have hcap := hR.cap
  have hmax := Lib.hid hR.most
  have hnM : (n : Int) ≤ 9223372036854775807 := by
    have := hmax.out
    simp only [maxLen] at this
    omega
  have h0I : (0 : Int) < n := by omega
  have hn1 : ¬ (n : Int) < 1 := by omega
  have c0 := hc 0 (by omega)
  obtain ⟨x0, hx0⟩ : ∃ x, Hid (l[0]'(by omega) = x) := ⟨_, Lib.hid rfl⟩
  rw [hx0.out, Nat.add_zero] at c0
  clear h hl hq hr hc hR
  go_enter Try.func24, Try.ntmps24
  go_wp2_with fail
  go_loopw [5, 6] (fun m i wr => ∃ k : Nat, 1 ≤ k ∧ k ≤ n ∧ i = .int .i64 k ∧ m = .int .u32 (chooseK L now (l.take k)) ∧ Below w.heap.size w wr) (fun _ i _ => n - (intOf i).toNat)
  case atStart =>
    refine ⟨1, Nat.le_refl _, h0, rfl, ?_, Below.refl _ _⟩
    obtain ⟨y, r, rfl⟩ : ∃ y r, l = y :: r := by
      cases l with
      | nil => simp at hln; omega
      | cons y r => exact ⟨y, r, rfl⟩
    have e := hx0.out
    simp at e
    subst e
    rfl
  case round =>
    obtain ⟨k, hk1, hk, rfl, rfl, hb⟩ := hrel
    have hb' := Lib.hid hb
    by_cases hlt : k < n
    · have hkI : (k : Int) < n := by omega
      have ck : wr.cell? ⟨b, o + k, none⟩ = some (.int .u32 (l[k]'(by omega))) := (World.cell?_of_block (w := w) (hb.block b hbs)).trans (hc'.out k (by omega))
      have hqr : wr.cell? ⟨q, 0, none⟩ = some (.pointer (some ⟨p, 0, none⟩)) := (World.cell?_of_block (w := w) (hb.block q hq0)).trans hq'.out
      have hrr : wr.cell? ⟨r, 0, none⟩ = some (.int .i64 now) := (World.cell?_of_block (w := w) (hb.block r hr0)).trans hr'.out
      have hs := chooseK_snoc L now (l := l.take k) (by simp; omega) (l[k]'(by omega))
      rw [← List.take_succ_eq_append_getElem (by omega)] at hs
      have hs' := Lib.hid hs
      have hqr' := Lib.hid hqr
      have hrr' := Lib.hid hrr
      clear hs hqr hrr hb
      generalize l[k]'(by omega) = x at *
      generalize chooseK L now (l.take k) = m at *
      go_wp2_with fail
      refine (cmp25 (h'.out.ext hb'.out) hl'.out hqr'.out hrr'.out x m).mono ?_
      rintro e w1 ⟨⟨c1, rfl, hc1⟩, hb1⟩
      have hb2 := Lib.hid (hb'.out.trans (hb1.mono hb'.out.size))
      have ck1 : w1.cell? ⟨b, o + k, none⟩ = some (.int .u32 x) := (World.cell?_of_block (hb1.block b (Nat.lt_of_lt_of_le hbs hb'.out.size))).trans ck
      clear hb1
      by_cases hneg : c1 < 0
      · rw [decide_eq_true hneg] at hc1
        rw [← hc1, if_pos rfl] at hs'
        clear hc1
        go_wp2_with fail
        go_roundw
        case rel => exact ⟨k + 1, by omega, by omega, by go_num, by rw [hs'.out], hb2.out⟩
        case measure => simp [intOf]; omega
      · rw [decide_eq_false hneg] at hc1
        rw [← hc1, if_neg (by decide)] at hs'
        clear hc1
        go_wp2_with fail
        go_roundw
        case rel => exact ⟨k + 1, by omega, by omega, by go_num, by rw [hs'.out], hb2.out⟩
        case measure => simp [intOf]; omega
    · have hk' : k = n := by omega
      subst hk'
      have e : l.take k = l := List.take_of_length_le (by omega)
      rw [e]
      go_wp2_with fail
      go_ret
      exact ⟨rfl, hb⟩
set_option maxHeartbeats 4000000 in
set_option maxRecDepth 100000 in
theorem choose11 {w : World} {p : Nat} {room : Int} {v : Value} {L : List Kn} (h : Pk w p room v L) (h1 : 1 ≤ room) (hl : L.length ≤ 100000) {a : Option Addr} {n c : Nat} {l : List Int} (hR : Rd u32E w a n c l) (now : Int) :
    Calls Try.prog 11 #[.pointer (some ⟨p, 0, none⟩), .slice a n c, .int .i64 now] w fun e w' => e = .returned (.tuple #[.int .u32 (chooseK L now l), .bool (decide (l.length ≠ 0))]) ∧ Below w.heap.size w w' := by
  have hp := h.blk.lt
  have hb0 : Below w.heap.size w ((w.alloc (.cells #[.pointer (some ⟨p, 0, none⟩)] 25)).alloc (.cells #[.int .i64 now] 3)) := below_al2 _ _ _
  have hP0 := Lib.hid (h.ext hb0)
  have hR0 := Lib.hid (hR.ext hb0)
  have hA := (Blk.new w 25 (0, 0) #[.pointer (some ⟨p, 0, none⟩)]).alloc (.cells #[.int .i64 now] 3)
  have hN : Blk ((w.alloc (.cells #[.pointer (some ⟨p, 0, none⟩)] 25)).alloc (.cells #[.int .i64 now] 3)) (w.heap.size + 1) 3 (0, 0) [.int .i64 now] := by
    have := Blk.new (w.alloc (.cells #[.pointer (some ⟨p, 0, none⟩)] 25)) 3 (0, 0) #[.int .i64 now]
    rwa [size_al] at this
  have hz := hP0.out.blk.cell 0
  have hln := hR.len
  have hl' := Lib.hid hl
  have hA' := Lib.hid hA
  have hN' := Lib.hid hN
  have hb0' := Lib.hid hb0
  clear h hR hl hA hN hb0
  go_enter Try.func11, Try.ntmps11
  go_wp2_with fail
  refine (none_ok hz h1).mono ?_
  rintro e w1 ⟨rfl, rfl⟩
  by_cases h0 : n = 0
  · subst h0
    have hnil : l = [] := List.eq_nil_of_length_eq_zero hln
    subst hnil
    go_wp2_with fail
    go_ret2
    exact ⟨rfl, hb0'.out⟩
  · have h0I : ¬ (n : Int) = 0 := by omega
    go_wp2_with fail
    refine (min24 hP0.out hl'.out (hA'.out.cell 0) (hN'.out.cell 0) hR0.out (by omega)).mono ?_
    rintro e w2 ⟨rfl, hb2⟩
    have hb3 := Lib.hid (hb0'.out.trans (hb2.mono hb0'.out.size))
    clear hb2
    go_wp2_with fail
    go_ret2
    rw [hln]
    exact ⟨by rw [decide_eq_true h0]; rfl, hb3.out⟩
end Go.Proofs.Ytjkeijjfjbcaiaa
