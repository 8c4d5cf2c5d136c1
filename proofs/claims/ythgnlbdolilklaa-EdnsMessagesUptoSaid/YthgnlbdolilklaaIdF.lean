/- The first record of a list that says more: opt 49, IndexFunc 48, ContainsFunc 50. -/
import Derived.Test.YthgnlbdolilklaaCpS
namespace Go.Proofs.Ythgnlbdolilklaa
open Go Go.RowKit
theorem rd_recs {w : World} {a : Option Addr} {n c : Nat} {l : List RD} (h : Rd recE w a n c l) (h0 : 0 < n) : ∃ b o, a = some ⟨b, o, none⟩ ∧ b < w.heap.size ∧ ∀ j (hj : j < l.length) i v, (l[j].cells)[i]? = some v → w.cell? ⟨b, o + j * 8 + i, none⟩ = some v := by
  obtain ⟨b, o, h1, h2, h3⟩ := h.addr h0
  refine ⟨b, o, h1, h2, fun j hj i v hv => ?_⟩
  have hi : i < 8 := (List.getElem?_eq_some_iff.1 hv).1
  have h4 := h3 j hj i hi
  have e : o + (j * recE.k + i) = o + j * 8 + i := by show o + (j * 8 + i) = o + j * 8 + i; omega
  rw [e] at h4
  rw [h4]
  exact hv
theorem opt_any (q : RD) (w : World) : Calls Try.prog 49 #[q.val] w fun e w' => e = .returned (.bool (q.ty == 41)) ∧ Below w.heap.size w w' := by
  obtain ⟨oa, on, oc, ty, cl, ttl, ma, mn, mc, ua, un, uc, xa, xn, xc, ra, rn, rc⟩ := q
  unfold RD.val rV
  dsimp only
  have hb : Hid (Below w.heap.size w (w.alloc (.cells #[.slice oa on oc, .int .u16 ty, .int .u16 cl, .int .u32 ttl, .slice ma mn mc, .slice ua un uc, .slice xa xn xc, .slice ra rn rc] 37))) := Lib.hid (alloc_bel _ _)
  have he : Hid (((ty : Int) == 41) = (ty == 41)) := Lib.hid (by rw [Bool.eq_iff_iff]; simp; omega)
  go_enter Try.func49, Try.ntmps49
  go_wp2_with fail
  go_ret
  exact ⟨by rw [← he.out]; rfl, hb.out⟩
/-- where the first is -/
def idxF : List RD → Nat → Int
  | [], _ => -1
  | q :: r, k => if q.ty == 41 then (k : Int) else idxF r (k + 1)
theorem idxF_skip : ∀ (l : List RD) (k m : Nat), m ≤ l.length → (∀ j (hj : j < l.length), j < m → (l[j].ty == 41) = false) → idxF l k = idxF (l.drop m) (k + m)
  | l, k, 0, _, _ => by rw [List.drop_zero, Nat.add_zero]
  | [], k, m + 1, hm, _ => by simp at hm
  | q :: r, k, m + 1, hm, h => by
    have h0 := h 0 (by simp) (by omega)
    rw [List.getElem_cons_zero] at h0
    have ih := idxF_skip r (k + 1) m (by simpa using hm) (fun j hj hjm => by have := h (j + 1) (by simpa using hj) (by omega); simpa using this)
    rw [idxF, h0, if_neg (by decide), ih, List.drop_succ_cons]
    congr 1
    omega
theorem idxF_at {l : List RD} {m : Nat} (hm : m < l.length) (h : ∀ j (hj : j < l.length), j < m → (l[j].ty == 41) = false) (hy : (l[m].ty == 41) = true) : idxF l 0 = m := by
  rw [idxF_skip l 0 m (by omega) h, List.drop_eq_getElem_cons hm, idxF, hy, if_pos rfl, Nat.zero_add]
theorem idxF_none {l : List RD} (h : ∀ j (hj : j < l.length), (l[j].ty == 41) = false) : idxF l 0 = -1 := by
  rw [idxF_skip l 0 l.length (Nat.le_refl _) (fun j hj _ => h j hj), List.drop_length]
  rfl
set_option maxHeartbeats 4000000 in
set_option maxRecDepth 100000 in
theorem idx_any {w : World} {a : Option Addr} {n c : Nat} {l : List RD} (h : Rd recE w a n c l) (hn : n ≤ 1152921504606846976) :
    Calls Try.prog 48 #[.slice a n c, .func (.func 49) #[] #[]] w fun e w' => e = .returned (.int .i64 (idxF l 0)) ∧ Below w.heap.size w w' := by
  have hl := h.len
  have hH := Lib.hid h
  clear h
  go_enter Try.func48, Try.ntmps48
  go_wp2_with fail
  go_loopw [8] (fun i wr => ∃ k : Nat, k ≤ n ∧ i = .int .i64 k ∧ Hid (Below w.heap.size w wr) ∧ Hid (∀ j (hj : j < l.length), j < k → (l[j].ty == 41) = false)) (fun i _ => n - (intOf i).toNat)
  case atStart => exact ⟨0, Nat.zero_le _, rfl, Lib.hid (Below.refl _ _), Lib.hid (fun j _ hj => absurd hj (Nat.not_lt_zero _))⟩
  case round =>
    obtain ⟨k, hk, rfl, hb, hno⟩ := hrel
    by_cases hlt : k < n
    · have hkI : (k : Int) < n := by omega
      have hks : k < l.length := by omega
      obtain ⟨b, o, rfl, hbs, hc⟩ := rd_recs (hH.out.ext hb.out) (by omega)
      have hck := hc k hks
      clear hc
      obtain ⟨x, hx⟩ : ∃ x, Hid (l[k] = x) := ⟨_, Lib.hid rfl⟩
      rw [hx.out] at hck
      obtain ⟨oa, on, oc, ty, cl, ttl, ma, mn, mc, ua, un, uc, xa, xn, xc, ra, rn, rc⟩ := x
      have c0 : wr.cell? ⟨b, o + k * 8, none⟩ = some (.slice oa on oc) := hck 0 _ rfl
      have c1 : wr.cell? ⟨b, o + k * 8 + 1, none⟩ = some (.int .u16 ty) := hck 1 _ rfl
      have c2 : wr.cell? ⟨b, o + k * 8 + 2, none⟩ = some (.int .u16 cl) := hck 2 _ rfl
      have c3 : wr.cell? ⟨b, o + k * 8 + 3, none⟩ = some (.int .u32 ttl) := hck 3 _ rfl
      have c4 : wr.cell? ⟨b, o + k * 8 + 4, none⟩ = some (.slice ma mn mc) := hck 4 _ rfl
      have c5 : wr.cell? ⟨b, o + k * 8 + 5, none⟩ = some (.slice ua un uc) := hck 5 _ rfl
      have c6 : wr.cell? ⟨b, o + k * 8 + 6, none⟩ = some (.slice xa xn xc) := hck 6 _ rfl
      have c7 : wr.cell? ⟨b, o + k * 8 + 7, none⟩ = some (.slice ra rn rc) := hck 7 _ rfl
      have ho : Hid (Calls Try.prog 49 #[.agg #[.slice oa on oc, .int .u16 ty, .int .u16 cl, .int .u32 ttl, .slice ma mn mc, .slice ua un uc, .slice xa xn xc, .slice ra rn rc]] wr fun e w' => e = .returned (.bool (ty == 41)) ∧ Below wr.heap.size wr w') := Lib.hid (opt_any ⟨oa, on, oc, ty, cl, ttl, ma, mn, mc, ua, un, uc, xa, xn, xc, ra, rn, rc⟩ wr)
      clear hck
      go_wp2_with fail
      refine ho.out.mono ?_
      rintro e w1 ⟨rfl, hb1⟩
      have hb2 := Lib.hid (hb.out.trans (hb1.mono hb.out.size))
      clear hb1 ho c0 c1 c2 c3 c4 c5 c6 c7
      cases hy : (ty == 41) with
      | true =>
        have hy' := Lib.hid hy
        clear hy
        go_wp2_with fail
        go_ret
        refine ⟨?_, hb2.out⟩
        rw [idxF_at hks hno.out (by rw [hx.out]; exact hy'.out)]
        rfl
      | false =>
        have hno2 : Hid (∀ j (hj : j < l.length), j < k + 1 → (l[j].ty == 41) = false) := Lib.hid (fun j hj hjk => by
          by_cases hjk' : j < k
          · exact hno.out j hj hjk'
          · have : j = k := by omega
            subst this
            rw [hx.out]; exact hy)
        clear hy hno
        go_wp2_with fail
        go_roundw
        case rel => exact ⟨k + 1, by omega, by go_num, hb2, hno2⟩
        case measure => simp [intOf]; omega
    · have hk' : k = n := by omega
      subst hk'
      go_wp2_with fail
      go_ret
      exact ⟨by rw [idxF_none fun j hj => hno.out j hj (by omega)]; rfl, hb.out⟩
set_option maxRecDepth 100000 in
theorem con_any {w : World} {a : Option Addr} {n c : Nat} {l : List RD} (h : Rd recE w a n c l) (hn : n ≤ 1152921504606846976) :
    Calls Try.prog 50 #[.slice a n c, .func (.func 49) #[] #[]] w fun e w' => e = .returned (.bool (decide (0 ≤ idxF l 0))) ∧ Below w.heap.size w w' := by
  have hi := Lib.hid (idx_any h hn)
  clear h
  go_enter Try.func50, Try.ntmps50
  go_wp2_with fail
  refine hi.out.mono ?_
  rintro e w1 ⟨rfl, hb⟩
  have hb' := Lib.hid hb
  clear hb
  go_wp2_with fail
  go_ret
  exact ⟨rfl, hb'.out⟩
end Go.Proofs.Ythgnlbdolilklaa
