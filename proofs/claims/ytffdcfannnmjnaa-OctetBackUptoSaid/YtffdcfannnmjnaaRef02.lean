/- Layer 2, labels: what the reference computes: Fold, Compare, Text. Texts of at most 2^40 bytes. -/
import Derived.Test.YtffdcfannnmjnaaText
import Derived.BigQuiet
import Derived.Deep.QuietTactic
import Derived.WalkSmall
namespace Go.Proofs.Ytffdcfannnmjnaa
open Go.RowKit

theorem foldL_take (l : List UInt8) (k : Nat) (h : k < l.length) : foldL (l.take (k+1)) = foldL (l.take k) ++ [foldC l[k]] := by
  rw [List.take_succ_eq_append_getElem h, foldL, List.map_append]; rfl
theorem foldC_yes' {c : UInt8} (h1 : (65:Int) ≤ (c.toNat : Int)) (h2 : (c.toNat : Int) ≤ 90) : ((foldC c).toNat : Int) = (c.toNat : Int) + 32 := by
  unfold foldC
  rw [if_pos (by omega), UInt8.toNat_add]
  simp; omega

set_option maxHeartbeats 2000000 in
set_option maxRecDepth 100000 in
theorem refFold_any (l : List UInt8) (w : World) (hs : l.length ≤ 1099511627776) :
    Calls Try.prog 67 #[.string (mk l)] w fun e w' => e = .returned (.string (mk (foldL l))) ∧ Below w.heap.size w w' := by
  go_enter Try.func67, Try.ntmps67
  go_wp2
  go_loopw [3, 4] (fun v i wr => ∃ k : Nat, k ≤ l.length ∧ i = .int .i64 k ∧ wr.ownsRow w.heap.size 5 1 v k (u8s (foldL (l.take k))) ∧ Below w.heap.size w wr)
    (fun _ i _ => l.length - (intOf i).toNat)
  case atStart => exact ⟨0, Nat.zero_le _, rfl, World.ownsRow_nil _ _ _ _, Below.refl _ _⟩
  case round =>
    obtain ⟨k, hk, rfl, hown, hb⟩ := hrel
    have hsz := hb.size
    by_cases hlt : k < l.length
    · have hst := Lib.hid (foldL_take l k hlt)
      have hlt256 : (l[k].toNat : Int) < 256 := by have := l[k].toNat_lt; omega
      by_cases h : (65:Int) ≤ (l[k].toNat : Int) ∧ (l[k].toNat : Int) ≤ 90
      · obtain ⟨h1, h2⟩ := h
        have hf := Lib.hid (foldC_yes' h1 h2)
        go_wp2_with (at_builtin; rw [← hf.out]; refine app_byte (w := wr) rfl (.tmp 23) (.tmp 25) rfl rfl (foldC l[k]) hown rfl _ rfl ?c1 ?c2 ?_)
        case c1 => omega
        case c2 => omega
        intro v' w2 hown2 hg
        rw [← hst.out] at hown2
        go_wp2
        go_roundw
        case rel => exact ⟨k + 1, by omega, by go_num, hown2, below_app hb hg hown hsz (Nat.le_refl _)⟩
        case measure => simp [intOf]; omega
      · have hf := Lib.hid (foldC_no h)
        have hd : decide ((65:Int) ≤ (l[k].toNat : Int)) = false ∨ decide ((l[k].toNat : Int) ≤ 90) = false := by simp; omega
        clear h
        rcases hd with hd | hd
        all_goals
          go_wp2_with (at_builtin; refine app_byte (w := wr) rfl (.tmp 23) (.tmp 25) rfl rfl l[k] hown rfl _ rfl (by omega) (by omega) ?_; intro v' w2 hown2 hg; rw [← hf.out, ← hst.out] at hown2)
          all_goals
            go_roundw
            case rel => exact ⟨k + 1, by omega, by go_num, by assumption, below_app hb (by assumption) hown hsz (Nat.le_refl _)⟩
            case measure => simp [intOf]; omega
    · have hk' : l.take k = l := List.take_of_length_le (by omega)
      rw [hk'] at hown
      have hcv := run_str_own (P := Try.prog) wr 27 9 5 Try.underlying27 Try.underlying5 Try.underlying9 hown
      clear hk' hown
      go_wp2
      go_ret
      exact ⟨rfl, hb⟩

theorem cmp_cons (a b : List UInt8) (k : Nat) (h1 : k < a.length) (h2 : k < b.length) :
    Lib.compareBytes (a.drop k) (b.drop k) = if a[k] < b[k] then -1 else if b[k] < a[k] then 1 else Lib.compareBytes (a.drop (k+1)) (b.drop (k+1)) := by
  rw [List.drop_eq_getElem_cons h1, List.drop_eq_getElem_cons h2]; rfl

set_option maxHeartbeats 2000000 in
set_option maxRecDepth 100000 in
theorem refCompare_any (a b : List UInt8) (w : World) (ha : a.length ≤ 1099511627776) (hb : b.length ≤ 1099511627776) :
    Calls Try.prog 68 #[.string (mk a), .string (mk b)] w fun e w' => e = .returned (.int .i64 (Lib.compareBytes (foldL a) (foldL b))) ∧ Below w.heap.size w w' := by
  have la := length_foldL a
  have lb := length_foldL b
  go_enter Try.func68, Try.ntmps68
  go_wp2_with fail
  refine (refFold_any a w ha).mono ?_
  rintro e w1 ⟨rfl, hb1⟩
  go_wp2_with fail
  refine (refFold_any b w1 hb).mono ?_
  rintro e w2 ⟨rfl, hb2⟩
  have hbb := nx hb1 hb2 (Nat.le_refl _)
  clear hb1 hb2
  have ha' : (foldL a).length ≤ 1099511627776 := by omega
  have hb' : (foldL b).length ≤ 1099511627776 := by omega
  clear la lb ha hb
  generalize hfa : foldL a = x at *
  generalize hfb : foldL b = y at *
  have hA := Lib.hid hfa
  have hB := Lib.hid hfb
  clear hfa hfb
  go_wp2_with fail
  go_loopw [7] (fun i wr => ∃ k : Nat, k ≤ x.length ∧ k ≤ y.length ∧ i = .int .i64 k ∧ Below w.heap.size w wr ∧ Hid (Lib.compareBytes x y = Lib.compareBytes (x.drop k) (y.drop k)))
    (fun i _ => x.length - (intOf i).toNat)
  case atStart => exact ⟨0, Nat.zero_le _, Nat.zero_le _, rfl, hbb, rfl⟩
  case round =>
    obtain ⟨k, hx, hy, rfl, hb1, hc⟩ := hrel
    clear hbb
    by_cases h1 : k < x.length
    · by_cases h2 : k < y.length
      · have hs := Lib.hid (cmp_cons x y k h1 h2)
        by_cases h3 : x[k] < y[k]
        · have h3' : (x[k].toNat : Int) < (y[k].toNat : Int) := by have := UInt8.lt_iff_toNat_lt.1 h3; omega
          have hv : Hid (Lib.compareBytes x y = -1) := by unfold Hid; rw [hc.out, hs.out, if_pos h3]
          clear h3
          go_wp2_with fail
          go_quiet (fail)
          go_wp2_with fail
          go_ret
          exact ⟨ret_int (by rw [hA.out, hB.out, hv.out]), below_drewN hb1 _⟩
        · have h3' : (y[k].toNat : Int) ≤ (x[k].toNat : Int) := by have := mt UInt8.lt_iff_toNat_lt.2 h3; omega
          by_cases h4 : y[k] < x[k]
          · have h4' : (y[k].toNat : Int) < (x[k].toNat : Int) := by have := UInt8.lt_iff_toNat_lt.1 h4; omega
            have hv : Hid (Lib.compareBytes x y = 1) := by unfold Hid; rw [hc.out, hs.out, if_neg h3, if_pos h4]
            clear h3 h4
            go_wp2_with fail
            go_quiet (fail)
            go_wp2_with fail
            go_quiet (fail)
            go_wp2_with fail
            go_ret
            exact ⟨ret_int (by rw [hA.out, hB.out, hv.out]), below_drewN (below_drewN hb1 _) _⟩
          · have h4' : (x[k].toNat : Int) ≤ (y[k].toNat : Int) := by have := mt UInt8.lt_iff_toNat_lt.2 h4; omega
            have hv : Hid (Lib.compareBytes x y = Lib.compareBytes (x.drop (k+1)) (y.drop (k+1))) := by unfold Hid; rw [hc.out, hs.out, if_neg h3, if_neg h4]
            clear h3 h4
            go_wp2_with fail
            go_quiet (fail)
            go_wp2_with fail
            go_quiet (fail)
            go_wp2_with fail
            go_roundw
            case rel => exact ⟨k + 1, by omega, by omega, by go_num, below_drewN hb1 _, hv⟩
            case measure => simp [intOf]; omega
      · have hk : y.drop k = [] := List.drop_eq_nil_of_le (by omega)
        have hv : Hid (Lib.compareBytes x y = 1) := by unfold Hid; rw [hc.out, hk, List.drop_eq_getElem_cons h1]; rfl
        clear hk
        go_wp2_with fail
        go_ret
        exact ⟨ret_int (by rw [hA.out, hB.out, hv.out]), hb1⟩
    · have hk : x.drop k = [] := List.drop_eq_nil_of_le (by omega)
      by_cases h2 : k < y.length
      · have hv : Hid (Lib.compareBytes x y = -1) := by unfold Hid; rw [hc.out, hk, List.drop_eq_getElem_cons h2]; rfl
        clear hk
        go_wp2_with fail
        go_ret
        exact ⟨ret_int (by rw [hA.out, hB.out, hv.out]), hb1⟩
      · have hk2 : y.drop k = [] := List.drop_eq_nil_of_le (by omega)
        have hv : Hid (Lib.compareBytes x y = 0) := by unfold Hid; rw [hc.out, hk, hk2]; rfl
        clear hk hk2
        go_wp2_with fail
        go_ret
        exact ⟨ret_int (by rw [hA.out, hB.out, hv.out]), hb1⟩

theorem app_bytes {ops : Array Oper} {rest : List Oper} {o : Oper} {a : Act} {Q : Exit → Act → World → Prop} {w : World} (hgd : o.guard = none) (s x : Operand)
    (ho : o.op = .call { callee := .builtin .append, args := #[s, x], argTypes := #[27, 27] })
    {base n : Nat} {v : Value} {xs : List UInt8} (hs : a.eval s = v) (c : List UInt8) (C : Array Value) (hC : C.toList = u8s c) (m : Nat) (hm : m = c.length) (hown : w.ownsRow base 5 1 v n (u8s xs))
    (hx : a.eval x = .slice (some ⟨w.heap.size, 0, none⟩) m m) (W : World) (hW : W = w.alloc (.cells C 5)) (hlen : n + m ≤ 140737488355328) (hbase : base ≤ w.heap.size)
    (h : ∀ v' w', w'.ownsRow base 5 1 v' (n + m) (u8s (xs ++ c)) → w.grownBy w' v.ownBlock → wpList Try.prog ops Q rest (a.put o.dst v') w') : wpList Try.prog ops Q (o :: rest) a W := by
  subst hW hm
  obtain ⟨i0, hi, hz0, hz1, hz2⟩ := info_parts Try.info5
  refine wpList_append_own _ hgd s x 27 ho base 5 i0 (.int .u8 0) 1 1 Try.underlying27 hi hz0 hz1 hz2 rfl (by decide) v n (u8s xs) hs (hown.alloc _) ⟨w.heap.size, 0, none⟩ c.length c.length (u8s c) hx (by simp [u8s]) ?_ (u8s_oneCell c) ?_ ?_ ?_ ?_
  · intro j u hu
    rw [Addr.add_lit, World.cell?_alloc_mark, Nat.zero_add, ← Array.getElem?_toList, hC]; exact hu
  · simp only [maxLen]; omega
  · omega
  · simp; omega
  · intro v' w' h1 h2 _
    refine h v' w' ?_ (grown_alloc _ h2)
    rw [u8s_append]; exact h1

theorem dec3_cells (c : UInt8) : (#[Value.int .u8 92, .int .u8 (48 + (c.toNat : Int) / 100), .int .u8 (48 + (c.toNat : Int) / 10 % 10), .int .u8 (48 + (c.toNat : Int) % 10)] : Array Value).toList = u8s (dec3 c) := by
  have := c.toNat_lt
  simp [dec3, u8s, u8]; omega

theorem specB_false {c : UInt8} (h : specB c = false) : ((c.toNat : Int) == 46) = false ∧ ((c.toNat : Int) == 92) = false ∧ ((c.toNat : Int) == 34) = false ∧ ((c.toNat : Int) == 59) = false ∧ ((c.toNat : Int) == 40) = false ∧ ((c.toNat : Int) == 41) = false ∧ ((c.toNat : Int) == 64) = false ∧ ((c.toNat : Int) == 36) = false := by
  have k : ∀ n : Fin 256, specB (UInt8.ofNat n.val) = false → ((n.val : Int) == 46) = false ∧ ((n.val : Int) == 92) = false ∧ ((n.val : Int) == 34) = false ∧ ((n.val : Int) == 59) = false ∧ ((n.val : Int) == 40) = false ∧ ((n.val : Int) == 41) = false ∧ ((n.val : Int) == 64) = false ∧ ((n.val : Int) == 36) = false := by decide +kernel
  exact k ⟨c.toNat, c.toNat_lt⟩ (by simpa using h)
theorem specB_true {c : UInt8} (h : specB c = true) : c = 46 ∨ c = 92 ∨ c = 34 ∨ c = 59 ∨ c = 40 ∨ c = 41 ∨ c = 64 ∨ c = 36 := by
  simpa [specB, or_assoc] using h

set_option maxHeartbeats 2000000 in
set_option maxRecDepth 100000 in
theorem special_any (c : UInt8) (w : World) : Calls Try.prog 121 #[.int .u8 c.toNat] w fun e w' => e = .returned (.bool (specB c)) ∧ w = w' := by
  cases h : specB c with
  | false =>
    obtain ⟨h1, h2, h3, h4, h5, h6, h7, h8⟩ := specB_false h
    clear h
    go_enter Try.func121, Try.ntmps121
    go_wp2
    go_ret
    exact ⟨rfl, rfl⟩
  | true =>
    rcases specB_true h with rfl | rfl | rfl | rfl | rfl | rfl | rfl | rfl
    all_goals
      clear h
      simp only [UInt8.reduceToNat, Int.cast_ofNat_Int]
      go_enter Try.func121, Try.ntmps121
      go_wp2
      go_ret
      exact ⟨rfl, rfl⟩

set_option maxHeartbeats 2000000 in
set_option maxRecDepth 100000 in
theorem refText_any (l : List UInt8) (w : World) (hs : l.length ≤ 1099511627776) :
    Calls Try.prog 70 #[.string (mk l)] w fun e w' => e = .returned (.string (mk (textL l))) ∧ Below w.heap.size w w' := by
  go_enter Try.func70, Try.ntmps70
  go_wp2
  go_loopw [3, 4] (fun v i wr => ∃ k : Nat, k ≤ l.length ∧ i = .int .i64 k ∧ wr.ownsRow w.heap.size 5 1 v (textL (l.take k)).length (u8s (textL (l.take k))) ∧ Below w.heap.size w wr)
    (fun _ i _ => l.length - (intOf i).toNat)
  case atStart => exact ⟨0, Nat.zero_le _, rfl, World.ownsRow_nil _ _ _ _, Below.refl _ _⟩
  case round =>
    obtain ⟨k, hk, rfl, hown, hb⟩ := hrel
    have hsz := hb.size
    by_cases hlt : k < l.length
    · have hst := Lib.hid (textL_take l k hlt)
      have hlt256 : (l[k].toNat : Int) < 256 := by have := l[k].toNat_lt; omega
      have htl := textL_len (l.take k)
      rw [List.length_take] at htl
      replace htl : (textL (l.take k)).length ≤ 4 * l.length := by omega
      by_cases h : l[k].toNat < 33 ∨ 126 < l[k].toNat
      · have he : Hid (escL l[k] = dec3 l[k]) := by unfold Hid escL; rw [if_pos h]
        have hd := dec3_cells l[k]
        have hd' := Lib.hid hd; clear hd
        have hdd : decide ((l[k].toNat : Int) < 33) = true ∨ decide ((l[k].toNat : Int) < 33) = false ∧ decide ((126 : Int) < (l[k].toNat : Int)) = true := by simp; omega
        clear h
        rcases hdd with hdd | ⟨hdd, hdd2⟩
        all_goals
          go_wp2_with (at_builtin; refine app_bytes (w := wr) rfl (.tmp 21) (.tmp 32) rfl rfl (dec3 l[k]) _ hd'.out 4 rfl hown rfl _ rfl (by omega) (by omega) ?_; intro v' w2 hown2 hg)
          go_roundw
          case rel => exact ⟨k + 1, by omega, by go_num, by rw [hst.out, he.out, List.length_append]; assumption, below_app hb (by assumption) hown hsz (Nat.le_refl _)⟩
          case measure => simp [intOf]; omega
      · have hd1 : decide ((l[k].toNat : Int) < 33) = false := by simp; omega
        have hd2 : decide ((126 : Int) < (l[k].toNat : Int)) = false := by simp; omega
        cases hsp : specB l[k] with
        | true =>
          have he : Hid (escL l[k] = [92] ++ [l[k]]) := by unfold Hid escL; rw [if_neg h, if_pos hsp]; rfl
          clear h
          go_wp2_with fail
          refine (special_any l[k] wr).mono ?_
          rw [hsp]
          rintro e w1 ⟨rfl, rfl⟩
          clear hsp
          go_wp2_with (at_builtin; refine app_byte (w := wr) rfl (.tmp 36) (.tmp 37) rfl rfl 92 hown rfl _ rfl (by omega) (by omega) ?_)
          intro v1 w1 hown1 hg1
          have hb1 := below_app hb hg1 hown hsz (Nat.le_refl _)
          have hsz1 := hb1.size
          go_wp2_with (at_builtin; refine app_byte (w := w1) rfl (.tmp 39) (.tmp 41) rfl rfl l[k] hown1 rfl _ rfl (by omega) (by omega) ?_)
          intro v2 w2 hown2 hg2
          go_wp2
          go_roundw
          case rel => exact ⟨k + 1, by omega, by go_num, by rw [hst.out, he.out, List.length_append]; exact hown2, below_app hb1 hg2 hown1 hsz1 (Nat.le_refl _)⟩
          case measure => simp [intOf]; omega
        | false =>
          have he : Hid (escL l[k] = [l[k]]) := by unfold Hid escL; rw [if_neg h, hsp]; rfl
          clear h
          go_wp2_with fail
          refine (special_any l[k] wr).mono ?_
          rw [hsp]
          rintro e w1 ⟨rfl, rfl⟩
          clear hsp
          go_wp2_with (at_builtin; refine app_byte (w := wr) rfl (.tmp 39) (.tmp 41) rfl rfl l[k] hown rfl _ rfl (by omega) (by omega) ?_)
          intro v2 w2 hown2 hg2
          go_wp2
          go_roundw
          case rel => exact ⟨k + 1, by omega, by go_num, by rw [hst.out, he.out, List.length_append]; exact hown2, below_app hb hg2 hown hsz (Nat.le_refl _)⟩
          case measure => simp [intOf]; omega
    · have hk' : l.take k = l := List.take_of_length_le (by omega)
      rw [hk'] at hown
      have hcv := run_str_own (P := Try.prog) wr 27 9 5 Try.underlying27 Try.underlying5 Try.underlying9 hown
      clear hk' hown
      go_wp2
      go_ret
      exact ⟨rfl, hb⟩
end Go.Proofs.Ytffdcfannnmjnaa
