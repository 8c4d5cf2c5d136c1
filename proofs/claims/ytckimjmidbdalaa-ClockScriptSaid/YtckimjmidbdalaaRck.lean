/- Layer 22: the document's clock: first, Next, Go. -/
import Derived.Test.YtckimjmidbdalaaOrdLaw
namespace Go.Proofs.Ytckimjmidbdalaa
open Go.RowKit
def tkE : Enc Tk := ⟨83, 2, fun t => [.int .i64 t.1, .int .i64 t.2], (0, 0), fun _ => rfl, fun x v hv => by simp at hv; rcases hv with rfl | rfl <;> rfl, by decide⟩
/-- block c is the document's clock, its list lies in block o -/
structure Rck (w : World) (c : Nat) (o : Option Nat) (now : Int) (L : List Tk) : Prop where
  ex : ∃ a cap, Blk w c 48 (0, 0) [.int .i64 now, .slice a L.length cap] ∧ Own tkE w (c + 1) (.slice a L.length cap) L ∧ (Value.slice a L.length cap).ownBlock = o
theorem Rck.lt {w : World} {c : Nat} {o : Option Nat} {now : Int} {L : List Tk} (h : Rck w c o now L) : c < w.heap.size := by obtain ⟨_, _, h, _⟩ := h; exact h.lt
theorem Rck.own {w : World} {c : Nat} {o : Option Nat} {now : Int} {L : List Tk} (h : Rck w c o now L) : ∀ k, o = some k → c < k ∧ k < w.heap.size := by
  obtain ⟨_, _, _, h, rfl⟩ := h
  intro k hk; have := h.lt k hk; omega
theorem Rck.keep {w w' : World} {c : Nat} {o : Option Nat} {now : Int} {L : List Tk} (h : Rck w c o now L) (h1 : w'.heap[c]? = w.heap[c]?) (h2 : ∀ k, o = some k → w'.heap[k]? = w.heap[k]?) : Rck w' c o now L := by
  obtain ⟨a, cap, h, r, rfl⟩ := h
  exact ⟨a, cap, h1.trans h, r.keep h2, rfl⟩
theorem Rck.drewN {w : World} {c : Nat} {o : Option Nat} {now : Int} {L : List Tk} (h : Rck w c o now L) (n : Nat) : Rck (w.drewN n) c o now L := h.keep rfl fun _ _ => rfl
theorem own_tk {w : World} {base : Nat} {v : Value} {l : List Tk} (h : Own tkE w base v l) (h0 : 0 < l.length) : ∃ g cap, v = .slice (some ⟨g, 0, none⟩) l.length cap ∧ base ≤ g ∧ g < w.heap.size ∧ l.length ≤ cap ∧ ∀ j, j < l.length → w.cell? ⟨g, j * 2, none⟩ = some (.int .i64 (l.getD j (0, 0)).1) ∧ w.cell? ⟨g, j * 2 + 1, none⟩ = some (.int .i64 (l.getD j (0, 0)).2) := by
  rcases h with ⟨_, rfl⟩ | ⟨g, cap, X, rfl, h2, h3, h4, h5, h6, h7⟩
  · simp at h0
  · refine ⟨g, cap, rfl, h2, h3.lt, h5, fun j hj => ?_⟩
    have e : l[j] = X[j]'(by omega) := by
      have : l[j] = (X.take l.length)[j]'(by simp; omega) := by congr 1; exact h7.symm
      rw [this, List.getElem_take]
    rw [getD_at l j (0, 0) hj, e]
    refine ⟨?_, ?_⟩
    · have := rowOf_get tkE X j 0 (by omega) (by decide); rw [h3.cell]; simpa [tkE] using this
    · have := rowOf_get tkE X j 1 (by omega) (by decide); rw [h3.cell]; simpa [tkE] using this
def bestI (L : List Tk) (k : Nat) : Int := match best L k with
  | none => -1
  | some i => (i : Int)
set_option maxHeartbeats 4000000 in
set_option maxRecDepth 100000 in
theorem rck_first {w : World} {c : Nat} {o : Option Nat} {now : Int} {L : List Tk} (h : Rck w c o now L) (hm : L.length ≤ 1000) :
    Calls Try.prog 38 #[.pointer (some ⟨c, 0, none⟩)] w fun e w' => e = .returned (.int .i64 (bestI L L.length)) ∧ ∃ k, w' = w.drewN k := by
  obtain ⟨a, cap, hB, hO, rfl⟩ := h
  have c1 : w.cell? ⟨c, 1, none⟩ = some (.slice a L.length cap) := by rw [hB.cell]; rfl
  have hOO := Lib.hid hO
  clear hB hO
  go_enter Try.func38, Try.ntmps38
  go_wp2_with fail
  go_loopw [3, 4] (fun b i wr => ∃ k nd : Nat, k ≤ L.length ∧ i = .int .i64 k ∧ b = .int .i64 (bestI L k) ∧ wr = w.drewN nd)
    (fun _ i _ => L.length - (intOf i).toNat)
  case atStart => exact ⟨0, 0, Nat.zero_le _, rfl, rfl, rfl⟩
  case round =>
    obtain ⟨k, nd, hk, rfl, rfl, rfl⟩ := hrel
    by_cases hlt : k < L.length
    · obtain ⟨g, cap', e, hbg, hgl, hcap, hcs⟩ := own_tk hOO.out (by omega)
      cases e
      obtain ⟨q1, q2⟩ := hcs k hlt
      by_cases h0 : k = 0
      · subst h0
        have e1 : bestI L 0 = -1 := rfl
        have e2 : bestI L 1 = 0 := rfl
        have e3 := Lib.hid e2
        rw [e1]
        clear e1 e2 hcs
        go_wp2_with fail
        go_quiet (fail)
        go_wp2_with fail
        go_roundw
        case rel => exact ⟨1, _, by omega, by go_num, by rw [e3.out]; rfl, rfl⟩
        case measure => simp [intOf]; omega
      · obtain ⟨i, hb, hi, b1, b2⟩ := best_spec L k (by omega)
        obtain ⟨p1, p2⟩ := hcs i (by omega)
        have e1 : bestI L k = i := by unfold bestI; rw [hb]
        have e2 : bestI L (k + 1) = if (L.getD k (0, 0)).1 < (L.getD i (0, 0)).1 then (k : Int) else i := by
          unfold bestI; rw [best, hb]; simp only
          by_cases hc : (L.getD k (0, 0)).1 < (L.getD i (0, 0)).1
          · rw [if_pos hc, if_pos hc]
          · rw [if_neg hc, if_neg hc]
        have hi2 : i < L.length := by omega
        have e3 := Lib.hid e2
        rw [e1]
        generalize (L.getD k (0, 0)).1 = x at *
        generalize (L.getD i (0, 0)).1 = y at *
        clear e1 e2 hcs b1 b2 hb
        by_cases hxy : x < y
        · rw [if_pos hxy] at e3
          go_wp2_with fail
          go_quiet (fail)
          go_wp2_with fail
          go_roundw
          case rel => exact ⟨k + 1, _, by omega, by go_num, by rw [e3.out], rfl⟩
          case measure => simp [intOf]; omega
        · rw [if_neg hxy] at e3
          go_wp2_with fail
          go_quiet (fail)
          go_wp2_with fail
          go_roundw
          case rel => exact ⟨k + 1, _, by omega, by go_num, by rw [e3.out], rfl⟩
          case measure => simp [intOf]; omega
    · have hkk : k = L.length := by omega
      subst hkk
      go_wp2_with fail
      go_ret
      exact ⟨rfl, _, rfl⟩
theorem bestI_of {L : List Tk} {i : Nat} (h : first L = some i) : bestI L L.length = i := by unfold bestI; rw [show best L L.length = some i from h]
set_option maxHeartbeats 4000000 in
set_option maxRecDepth 100000 in
theorem rck_next {w : World} {c : Nat} {o : Option Nat} {now : Int} {L : List Tk} (h : Rck w c o now L) (hm : L.length ≤ 1000) :
    Calls Try.prog 34 #[.pointer (some ⟨c, 0, none⟩)] w fun e w' => e = .returned (.tuple #[.int .i64 (nxt L).1, .bool (nxt L).2]) ∧ ∃ k, w' = w.drewN k := by
  have hf := rck_first h hm
  obtain ⟨a, cap, hB, hO, rfl⟩ := h
  have c1 : w.cell? ⟨c, 1, none⟩ = some (.slice a L.length cap) := by rw [hB.cell]; rfl
  by_cases h0 : 0 < L.length
  · obtain ⟨g, cap', e, hbg, hgl, hcap, hcs⟩ := own_tk hO h0
    cases e
    obtain ⟨i, hb, hi, _, _⟩ := best_spec L L.length h0
    obtain ⟨q1, q2⟩ := hcs i hi
    rw [bestI_of hb] at hf
    rw [nxt_of hb]
    generalize (L.getD i (0, 0)).1 = x at *
    clear hcs hB hO hb
    go_enter Try.func34, Try.ntmps34
    go_wp2_with (go_at_call 38; refine hf.mono ?_; rintro e w1 ⟨rfl, nd, rfl⟩)
    go_ret2
    exact ⟨rfl, _, rfl⟩
  · have hL : L = [] := List.eq_nil_of_length_eq_zero (by omega)
    subst hL
    have e1 : bestI [] ([] : List Tk).length = -1 := rfl
    rw [e1] at hf
    rw [nxt_nil]
    clear hB hO e1
    go_enter Try.func34, Try.ntmps34
    go_wp2_with (go_at_call 38; refine hf.mono ?_; rintro e w1 ⟨rfl, nd, rfl⟩)
    go_ret2
    exact ⟨rfl, _, rfl⟩
set_option maxHeartbeats 2000000 in
theorem rck_go_no {w : World} {c : Nat} {o : Option Nat} {now : Int} {L : List Tk} (h : Rck w c o now L) (to : Int) (hn : to < now ∨ mx < to) : Calls Try.prog 32 #[.pointer (some ⟨c, 0, none⟩), .int .i64 to] w fun e w' => e = .returned (.int .i64 2) ∧ w = w' := by
  obtain ⟨a, cap, hB, hO, rfl⟩ := h
  have c0 : w.cell? ⟨c, 0, none⟩ = some (.int .i64 now) := by rw [hB.cell]; rfl
  clear hB hO
  unfold mx at hn
  by_cases h1 : to < now
  · clear hn
    go_enter Try.func32, Try.ntmps32
    go_wp2
    all_goals go_ret
    all_goals exact ⟨rfl, rfl⟩
  · have h2 : 1099511627776 < to := by omega
    clear hn
    go_enter Try.func32, Try.ntmps32
    go_wp2
    all_goals go_ret
    all_goals exact ⟨rfl, rfl⟩
set_option maxHeartbeats 2000000 in
theorem rck_go_yes {w : World} {c : Nat} {o : Option Nat} {now : Int} {L : List Tk} (h : Rck w c o now L) (to : Int) (h1 : now ≤ to) (h2 : to ≤ mx) :
    Calls Try.prog 32 #[.pointer (some ⟨c, 0, none⟩), .int .i64 to] w fun e w' => e = .returned (.int .i64 0) ∧ Rck w' c o to L ∧ Tn w w' c o := by
  obtain ⟨a, cap, hB, hO, rfl⟩ := h
  have c0 : w.cell? ⟨c, 0, none⟩ = some (.int .i64 now) := by rw [hB.cell]; rfl
  have f0 : w.frozen? ⟨c, 0, none⟩ = false := by rw [hB.frozen]; simp
  have hR : Rck (w.setCell ⟨c, 0, none⟩ (.int .i64 to)) c (Value.slice a L.length cap).ownBlock to L :=
    ⟨a, cap, hB.set 0 _, hO.keep fun k hk => Below.heap_setCell _ _ _ _ (fun e => by have := (hO.lt k hk).1; simp at e; omega), rfl⟩
  have hRR := Lib.hid hR
  clear hB hO hR
  unfold mx at h2
  go_enter Try.func32, Try.ntmps32
  go_wp2
  go_ret
  exact ⟨rfl, hRR.out, Tn.of_grown_c (grown_set _ _ _ _)⟩
end Go.Proofs.Ytckimjmidbdalaa
