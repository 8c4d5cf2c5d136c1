/- kit.Pick 22, told 10. -/
import Derived.Test.YtjkeijjfjbcaiaaPkM
import Derived.Laws.BitsLemmas
namespace Go.Proofs.Ytjkeijjfjbcaiaa
open Go.RowKit
theorem tmod_key (x n : Int) (h1 : 1 ≤ n) : -n < x.tmod n ∧ x.tmod n < n ∧ (x.tmod n < 0 → x.tmod n + n = x % n) ∧ (0 ≤ x.tmod n → x.tmod n = x % n) := by
  have e0 := Int.emod_nonneg x (by omega : n ≠ 0)
  have e1 := Int.emod_lt_of_pos x (by omega : 0 < n)
  have e := Int.tmod_eq_emod (a := x) (b := n)
  split at e
  · simp at e
    omega
  · have : (n.natAbs : Int) = n := Int.natAbs_of_nonneg (by omega)
    rw [this] at e
    omega
theorem pick22 (x n : Int) (h1 : 1 ≤ n) (h2 : n ≤ 100000) (w : World) : Calls Try.prog 22 #[.int .i64 x, .int .i64 n] w fun e w' => e = .returned (.int .i64 (x % n)) ∧ w = w' := by
  have hn : ¬ n < 1 := by omega
  have hn0 : n ≠ 0 := by omega
  obtain ⟨m0, m1, m2, m3⟩ := tmod_key x n h1
  by_cases hneg : x.tmod n < 0
  · have e := m2 hneg
    have e' := Lib.hid e
    clear m2 m3 e
    go_enter Try.func22, Try.ntmps22
    go_wp2_with fail
    go_ret
    exact ⟨ret_int e'.out, rfl⟩
  · have e := Lib.hid (m3 (by omega))
    clear m2 m3
    go_enter Try.func22, Try.ntmps22
    go_wp2_with fail
    go_ret
    exact ⟨ret_int e.out, rfl⟩
/-- a thing that was heard: of which server (the last two bits), and what -/
def stepK (room now : Int) (L : List Kn) (x : Nat) : List Kn :=
  if x / 4 % 4 < 2 then hrd room L (knGood L (x % 4 : Nat) (x / 16 : Nat) now) else if x / 4 % 4 = 2 then hrd room L (knBad L (x % 4 : Nat) now) else hrd room L (knLame L (x % 4 : Nat) now)
def pn (x : Int) : Nat := (x % 4096).toNat
theorem pn_lt (x : Int) : pn x < 4096 := by unfold pn; omega
theorem pn_eq (x : Int) : x % 4096 = (pn x : Int) := by unfold pn; omega
def toldK (room now : Int) (xs : List Int) : List Kn := xs.foldl (fun L x => stepK room now L (pn x)) []
theorem toldK_snoc (room now : Int) (xs : List Int) (x : Int) : toldK room now (xs ++ [x]) = stepK room now (toldK room now xs) (pn x) := by unfold toldK; rw [List.foldl_append]; rfl
theorem stepK_ok {room now : Int} {L : List Kn} (hL : ∀ k ∈ L, KnOk now (now + 1024) k) (x : Nat) : ∀ k ∈ stepK room now L x, KnOk now (now + 1024) k := by
  unfold stepK
  have a0 : (0 : Int) ≤ (x % 4 : Nat) := by omega
  have a1 : ((x % 4 : Nat) : Int) < 4294967296 := by omega
  split
  · exact hrd_ok hL (knGood_ok hL a0 a1 (by omega) (Int.le_refl _) (by omega))
  · split
    · exact hrd_ok hL (knBad_ok hL a0 a1 (by omega) (by omega))
    · exact hrd_ok hL (knLame_ok hL a0 a1 (by omega) (by omega))
theorem toldK_ok (room now : Int) (xs : List Int) : ∀ k ∈ toldK room now xs, KnOk now (now + 1024) k := by
  suffices h : ∀ (xs : List Int) (L : List Kn), (∀ k ∈ L, KnOk now (now + 1024) k) → ∀ k ∈ xs.foldl (fun L x => stepK room now L (pn x)) L, KnOk now (now + 1024) k from h xs [] (fun k hk => by cases hk)
  intro xs
  induction xs with
  | nil => intro L hL; exact hL
  | cons x r ih => intro L hL; exact ih _ (stepK_ok hL _)
theorem stepK_room {room now : Int} {L : List Kn} (hL : (L.length : Int) ≤ room) (x : Nat) : ((stepK room now L x).length : Int) ≤ room := by
  unfold stepK
  split
  · exact hrd_room hL
  · split <;> exact hrd_room hL
theorem toldK_room {room now : Int} (h1 : 1 ≤ room) (xs : List Int) : ((toldK room now xs).length : Int) ≤ room := by
  suffices h : ∀ (xs : List Int) (L : List Kn), (L.length : Int) ≤ room → ((xs.foldl (fun L x => stepK room now L (pn x)) L).length : Int) ≤ room from h xs [] (by show (0 : Int) ≤ room; omega)
  intro xs
  induction xs with
  | nil => intro L hL; exact hL
  | cons x r ih => intro L hL; exact ih _ (stepK_room hL _)
theorem and_i64 (a b : Nat) (ha : a < 65536) (hb : b < 65536) : bits .and .i64 (a : Int) (b : Int) = ((a &&& b : Nat) : Int) := (bits_nat .i64 16 (by decide) (fun n h0 h1 => by rw [IntKind.wrap_i64]; omega) a b ha hb).1
theorem and3 (m : Nat) : m &&& 3 = m % 4 := Nat.and_two_pow_sub_one_eq_mod m 2
theorem rd_int {w : World} {a : Option Addr} {n c : Nat} {l : List Int} (h : Rd intE w a n c l) (h0 : 0 < n) : ∃ b o, a = some ⟨b, o, none⟩ ∧ b < w.heap.size ∧ ∀ j (hj : j < l.length), w.cell? ⟨b, o + j, none⟩ = some (.int .i64 l[j]) := by
  obtain ⟨b, o, h1, h3, h2⟩ := h.addr h0
  exact ⟨b, o, h1, h3, fun j hj => by have := h2 j hj 0 (by decide); simpa [intE] using this⟩
set_option maxHeartbeats 8000000 in
set_option maxRecDepth 100000 in
theorem told10 {w : World} {room now : Int} {a : Option Addr} {n c : Nat} {xs : List Int} (h1 : 1 ≤ room) (h2 : room ≤ 4096) (m0 : 0 ≤ now) (m1 : now ≤ 1000000) (hR : Rd intE w a n c xs) (hn : n ≤ 60) :
    Calls Try.prog 10 #[.int .i64 room, .slice a n c, .int .i64 now] w fun e w' => e = .returned (.tuple #[.pointer (some ⟨w.heap.size, 0, none⟩), .bool true]) ∧ PkU w w' w.heap.size room (toldK room now xs) := by
  have hl := hR.len
  have hm : momB now = true := by unfold momB; rw [decide_eq_true m0, decide_eq_true (by omega)]; rfl
  have hm' := Lib.hid hm
  have hR' := Lib.hid hR
  have h2' := Lib.hid h2
  clear hR hm
  go_enter Try.func10, Try.ntmps10
  go_wp2_with fail
  refine (newU room h1 h2 w).mono ?_
  rintro e w1 ⟨rfl, hP1⟩
  have hP1' := Lib.hid hP1
  clear hP1 h2
  go_wp2_with fail
  go_loopw [10, 11, 12] (fun i _ _ wr => ∃ k : Nat, k ≤ n ∧ i = .int .i64 k ∧ Hid (PkU w wr w.heap.size room (toldK room now (xs.take k)))) (fun i _ _ _ => n - (intOf i).toNat)
  case atStart => exact ⟨0, Nat.zero_le _, rfl, hP1'⟩
  case round =>
    clear hP1'
    obtain ⟨k, hk, rfl, hP⟩ := hrel
    by_cases hlt : k < n
    · have hkI : (k : Int) < n := by omega
      obtain ⟨b, o, rfl, hb1, hc⟩ := rd_int hR'.out (by omega)
      have hck := (World.cell?_of_block (w := w) (hP.out.below.block b hb1)).trans (hc k (by omega))
      have hs := toldK_snoc room now (xs.take k) (xs[k]'(by omega))
      rw [← List.take_succ_eq_append_getElem (by omega)] at hs
      have hlen := toldK_room (now := now) h1 (xs.take k)
      have hok := toldK_ok room now (xs.take k)
      have hll : (toldK room now (xs.take k)).length ≤ 100000 := by have := h2'.out; omega
      have hkb : ∀ q ∈ toldK room now (xs.take k), KB q := fun q hq => (hok q hq).kb
      have hs' := Lib.hid hs
      have hll' := Lib.hid hll
      have hkb' := Lib.hid hkb
      clear hc hs hlen hok hll hkb
      generalize xs[k]'(by omega) = x at *
      generalize toldK room now (xs.take k) = L at *
      go_wp2_with fail
      refine (pick22 x 4096 (by decide) (by decide) wr).mono ?_
      rintro e w2 ⟨rfl, rfl⟩
      rw [pn_eq]
      have hx := pn_lt x
      generalize pn x = y at *
      have f1 : bits .and .i64 (y : Int) 3 = ((y % 4 : Nat) : Int) := by rw [← and3]; exact and_i64 y 3 (by omega) (by decide)
      have f2 : bits .and .i64 ((y : Int) / 4) 3 = ((y / 4 % 4 : Nat) : Int) := by rw [← and3]; exact and_i64 (y / 4) 3 (by omega) (by decide)
      have hy0 : (0 : Int) ≤ y := by omega
      have ha0 : ((y % 4 : Nat) : Int) < 4 := by omega
      have hq : y / 4 % 4 = 0 ∨ y / 4 % 4 = 1 ∨ y / 4 % 4 = 2 ∨ y / 4 % 4 = 3 := by omega
      obtain ⟨q, hqq⟩ : ∃ q, y / 4 % 4 = q := ⟨_, rfl⟩
      rw [hqq] at f2 hq
      obtain ⟨r, hrr⟩ : ∃ r, Hid (y % 4 = r) := ⟨_, Lib.hid rfl⟩
      rw [hrr.out] at f1 ha0
      have hst : Hid (stepK room now L y = if q < 2 then hrd room L (knGood L (r : Int) (y / 16 : Nat) now) else if q = 2 then hrd room L (knBad L (r : Int) now) else hrd room L (knLame L (r : Int) now)) := Lib.hid (by unfold stepK; rw [hqq, hrr.out])
      clear hqq
      obtain rfl | rfl | rfl | rfl := hq
      · go_wp2_with fail
        refine (goodU hP.out h1 hll'.out hkb'.out r ((y : Int) / 16) now (by omega) hm'.out).mono ?_
        rintro e w3 ⟨rfl, hP3⟩
        have hP3' := Lib.hid hP3
        clear hP3
        go_wp2_with fail
        go_roundw
        case rel => exact ⟨k + 1, by omega, by go_num, Lib.hid (hP3'.out.cast (by rw [hs'.out, hst.out]; rfl))⟩
        case measure => simp [intOf]; omega
      · go_wp2_with fail
        refine (goodU hP.out h1 hll'.out hkb'.out r ((y : Int) / 16) now (by omega) hm'.out).mono ?_
        rintro e w3 ⟨rfl, hP3⟩
        have hP3' := Lib.hid hP3
        clear hP3
        go_wp2_with fail
        go_roundw
        case rel => exact ⟨k + 1, by omega, by go_num, Lib.hid (hP3'.out.cast (by rw [hs'.out, hst.out]; rfl))⟩
        case measure => simp [intOf]; omega
      · go_wp2_with fail
        refine (badU hP.out h1 hll'.out hkb'.out r now hm'.out).mono ?_
        rintro e w3 ⟨rfl, hP3⟩
        have hP3' := Lib.hid hP3
        clear hP3
        go_wp2_with fail
        go_roundw
        case rel => exact ⟨k + 1, by omega, by go_num, Lib.hid (hP3'.out.cast (by rw [hs'.out, hst.out]; rfl))⟩
        case measure => simp [intOf]; omega
      · go_wp2_with fail
        refine (lameU hP.out h1 hll'.out r now hm'.out).mono ?_
        rintro e w3 ⟨rfl, hP3⟩
        have hP3' := Lib.hid hP3
        clear hP3
        go_wp2_with fail
        go_roundw
        case rel => exact ⟨k + 1, by omega, by go_num, Lib.hid (hP3'.out.cast (by rw [hs'.out, hst.out]; rfl))⟩
        case measure => simp [intOf]; omega
    · have hk' : k = n := by omega
      subst hk'
      rw [List.take_of_length_le (by omega)] at hP
      go_wp2_with fail
      go_ret2
      exact ⟨rfl, hP.out⟩
end Go.Proofs.Ytjkeijjfjbcaiaa
