/- Layer 2, labels: label.Parse, and the reference's. Texts of at most 2^40 bytes. -/
import Derived.Test.YtffdcfannnmjnaaParse
import Derived.Test.YtffdcfannnmjnaaTypes
namespace Go.Proofs.Ytffdcfannnmjnaa
open Go.RowKit

def parseF : Nat → List UInt8 → Option (List UInt8 × Nat)
  | 0, _ => some ([], 0)
  | _ + 1, [] => some ([], 0)
  | f + 1, c :: r => if c = 46 then some ([], 0) else
    match nextL (c :: r) with
    | none => none
    | some (d, n) => (parseF f ((c :: r).drop n)).map fun p => (d :: p.1, n + p.2)
def parseL (l : List UInt8) : Option (List UInt8 × Nat) := parseF l.length l

theorem nextL_len {s : List UInt8} {d : UInt8} {n : Nat} (h : nextL s = some (d, n)) : 1 ≤ n ∧ n ≤ s.length := by
  match s, h with
  | c :: r, h =>
    unfold nextL at h
    by_cases h1 : c.toNat < 33 ∨ 126 < c.toNat
    · simp [h1] at h
    by_cases h2 : c = 92
    · subst h2
      match r, h with
      | d :: r2, h =>
        by_cases h3 : d.toNat < 33 ∨ 126 < d.toNat
        · simp [h3] at h
        cases h4 : digB d with
        | false => simp [h3, h4] at h; obtain ⟨_, rfl⟩ := h; simp
        | true =>
          match r2, h with
          | e :: f :: r3, h =>
            by_cases h5 : digB e = false ∨ digB f = false
            · simp [h3, h4, h5] at h
            by_cases h6 : 255 < 100 * (d.toNat - 48) + 10 * (e.toNat - 48) + (f.toNat - 48)
            · simp [h3, h4, h5, h6] at h
            · simp [h3, h4, h5, h6] at h; obtain ⟨_, rfl⟩ := h; simp
          | [e], h => simp [h3, h4] at h
          | [], h => simp [h3, h4] at h
      | [], h => simp at h
    · simp [h1, h2] at h; obtain ⟨_, rfl⟩ := h; simp
theorem parseF_more : ∀ (f g : Nat) (l : List UInt8), l.length ≤ f → l.length ≤ g → parseF f l = parseF g l
  | 0, 0, _, _, _ => rfl
  | 0, g + 1, l, h, _ => by have : l = [] := List.eq_nil_of_length_eq_zero (by omega); subst this; rfl
  | f + 1, 0, l, _, h => by have : l = [] := List.eq_nil_of_length_eq_zero (by omega); subst this; rfl
  | f + 1, g + 1, [], _, _ => rfl
  | f + 1, g + 1, c :: r, h1, h2 => by
    unfold parseF
    split
    · rfl
    · cases hn : nextL (c :: r) with
      | none => rfl
      | some p =>
        obtain ⟨d, n⟩ := p
        have := nextL_len hn
        simp only []
        rw [parseF_more f g _ (by simp at *; omega) (by simp at *; omega)]
theorem parse_nil : parseL [] = some ([], 0) := rfl
theorem parse_dot (r : List UInt8) : parseL (46 :: r) = some ([], 0) := rfl
theorem parse_none {c : UInt8} {r : List UInt8} (h : c ≠ 46) (hn : nextL (c :: r) = none) : parseL (c :: r) = none := by
  unfold parseL; rw [List.length_cons, parseF]; simp [h, hn]
theorem parse_some {c : UInt8} {r : List UInt8} {d : UInt8} {n : Nat} (h : c ≠ 46) (hn : nextL (c :: r) = some (d, n)) : parseL (c :: r) = (parseL ((c :: r).drop n)).map fun p => (d :: p.1, n + p.2) := by
  have := nextL_len hn
  unfold parseL; rw [List.length_cons, parseF]; simp only [h, hn, if_false]
  rw [parseF_more r.length ((c :: r).drop n).length _ (by simp at *; omega) (Nat.le_refl _)]

/-- what stands ahead of what is left -/
def pre (out : List UInt8) (k : Nat) (r : Option (List UInt8 × Nat)) : Option (List UInt8 × Nat) := r.map fun p => (out ++ p.1, k + p.2)
theorem pre_nil (r : Option (List UInt8 × Nat)) : pre [] 0 r = r := by cases r <;> simp [pre]
theorem pre_step (out : List UInt8) (k : Nat) (d : UInt8) (n : Nat) (r : Option (List UInt8 × Nat)) : pre out k (r.map fun p => (d :: p.1, n + p.2)) = pre (out ++ [d]) (k + n) r := by
  cases r <;> simp [pre, Nat.add_assoc]

def parseV (l : List UInt8) : Value := match parseL l with
  | none => .tuple #[.string (mk []), .int .i64 0, .int .i64 120]
  | some (x, n) => if 1 ≤ x.length ∧ x.length ≤ 63 then .tuple #[.string (mk x), .int .i64 n, .int .i64 0] else .tuple #[.string (mk []), .int .i64 0, .int .i64 4]

theorem check_yes (l : List UInt8) (w : World) (h : 1 ≤ l.length ∧ l.length ≤ 63) : Calls Try.prog 65 #[.string (mk l)] w fun e w' => e = .returned (.int .i64 0) ∧ w = w' := by
  obtain ⟨h1, h2⟩ := h
  go_enter Try.func65, Try.ntmps65
  go_wp2
  go_ret
  exact ⟨rfl, rfl⟩
theorem check_no (l : List UInt8) (w : World) (h : l.length < 1 ∨ 63 < l.length) : Calls Try.prog 65 #[.string (mk l)] w fun e w' => e = .returned (.int .i64 4) ∧ w = w' := by
  rcases h with h | h
  · go_enter Try.func65, Try.ntmps65
    go_wp2
    go_ret
    exact ⟨rfl, rfl⟩
  · go_enter Try.func65, Try.ntmps65
    go_wp2
    go_ret
    exact ⟨rfl, rfl⟩

set_option maxHeartbeats 2000000 in
theorem labelParse_any (l : List UInt8) (w : World) (hs : l.length ≤ 1099511627776) :
    Calls Try.prog 33 #[.string (mk l)] w fun e w' => e = .returned (parseV l) ∧ Below w.heap.size w w' := by
  go_enter Try.func33, Try.ntmps33
  go_wp2
  go_loopw [5, 6] (fun v i wr => ∃ (k : Nat) (out : List UInt8), k ≤ l.length ∧ i = .int .i64 k ∧ wr.ownsRow w.heap.size 5 1 v out.length (u8s out) ∧ out.length ≤ k ∧ Below w.heap.size w wr ∧ Hid (parseL l = pre out k (parseL (l.drop k))))
    (fun _ i _ => l.length - (intOf i).toNat)
  case atStart => exact ⟨0, [], Nat.zero_le _, rfl, World.ownsRow_nil _ _ _ _, Nat.zero_le _, Below.refl _ _, by simp [pre_nil, Hid]⟩
  case round =>
    obtain ⟨k, out, hk, rfl, hown, hok, hb, hp⟩ := hrel
    by_cases hlt : k < l.length
    · have hx : l.drop k = l[k] :: l.drop (k+1) := List.drop_eq_getElem_cons hlt
      have hx' := Lib.hid hx; clear hx
      by_cases hd : l[k] = 46
      · have hd' : ((l[k].toNat : Int) != 46) = false := by simp [hd]
        have hd2 := Lib.hid hd; clear hd
        have hv : Hid (parseV l = if 1 ≤ out.length ∧ out.length ≤ 63 then .tuple #[.string (mk out), .int .i64 k, .int .i64 0] else .tuple #[.string (mk []), .int .i64 0, .int .i64 4]) := by
          unfold parseV Hid
          rw [hp.out, hx'.out, hd2.out, parse_dot]; simp [pre]
        have hcv := run_str_own (P := Try.prog) wr 27 9 5 Try.underlying27 Try.underlying5 Try.underlying9 hown
        by_cases hlen : 1 ≤ out.length ∧ out.length ≤ 63
        · go_wp2_with fail
          refine (check_yes out wr hlen).mono ?_
          rintro e w1 ⟨rfl, rfl⟩
          go_wp2_with fail
          go_ret3
          rw [hv.out, if_pos hlen]
          exact ⟨rfl, hb⟩
        · go_wp2_with fail
          refine (check_no out wr (by omega)).mono ?_
          rintro e w1 ⟨rfl, rfl⟩
          go_wp2_with fail
          go_ret3
          rw [hv.out, if_neg hlen]
          exact ⟨rfl, hb⟩
      · have hd' : ((l[k].toNat : Int) != 46) = true := by
          rw [bne_iff_ne]; have := ne_toNat hd; simp at this; omega
        have hd2 := Lib.hid hd; clear hd
        go_wp2_with fail
        refine (next_any (l.drop k) wr (by simp; omega) (by simp; omega)).mono ?_
        rintro e w1 ⟨rfl, hb1⟩
        cases hn : nextL (l.drop k) with
        | none =>
          have hnv : nextV (l.drop k) = .tuple #[.int .u8 0, .int .i64 0] := by simp [nextV, hn]
          rw [hnv]
          have hv : Hid (parseV l = .tuple #[.string (mk []), .int .i64 0, .int .i64 120]) := by
            unfold parseV Hid
            rw [hx'.out] at hn
            rw [hp.out, hx'.out, parse_none hd2.out hn]; rfl
          clear hn hnv
          go_wp2_with fail
          go_ret3
          rw [hv.out]
          exact ⟨rfl, nx hb hb1 (Nat.le_refl _)⟩
        | some p =>
          obtain ⟨d, n⟩ := p
          have hnv : nextV (l.drop k) = .tuple #[.int .u8 d.toNat, .int .i64 n] := by simp [nextV, hn]
          rw [hnv]
          obtain ⟨n1, n2⟩ := nextL_len hn
          have hp' : Hid (parseL l = pre (out ++ [d]) (k + n) (parseL (l.drop (k + n)))) := by
            unfold Hid
            have e := hx'.out
            rw [e] at hn
            rw [hp.out, e, parse_some hd2.out hn, pre_step, ← e, List.drop_drop]
          rw [List.length_drop] at n2
          replace n2 : k + n ≤ l.length := by omega
          have n3 : ((n : Int) == 0) = false := by simp; omega
          clear hn hnv
          have hown1 := ownsRow_ext hown hb1
          go_wp2_with (at_builtin; refine app_byte (w := w1) rfl (.tmp 29) (.tmp 31) rfl rfl d hown1 rfl _ rfl ?c1 ?c2 ?_)
          case c1 => omega
          case c2 => have := hb.size; have := hb1.size; omega
          intro v' w2 hown2 hg
          go_wp2
          go_roundw
          case rel =>
            refine ⟨k + n, out ++ [d], by omega, by go_num, by simpa using hown2, by simp; omega, below_app (nx hb hb1 (Nat.le_refl _)) hg hown1 (by have := hb.size; have := hb1.size; omega) (Nat.le_refl _), hp'⟩
          case measure => simp [intOf]; omega
    · have hk' : l.drop k = [] := List.drop_eq_nil_of_le (by omega)
      have hv : Hid (parseV l = if 1 ≤ out.length ∧ out.length ≤ 63 then .tuple #[.string (mk out), .int .i64 k, .int .i64 0] else .tuple #[.string (mk []), .int .i64 0, .int .i64 4]) := by
        unfold parseV Hid
        rw [hp.out, hk', parse_nil]; simp [pre]
      clear hk'
      have hcv := run_str_own (P := Try.prog) wr 27 9 5 Try.underlying27 Try.underlying5 Try.underlying9 hown
      by_cases hlen : 1 ≤ out.length ∧ out.length ≤ 63
      · go_wp2_with fail
        refine (check_yes out wr hlen).mono ?_
        rintro e w1 ⟨rfl, rfl⟩
        go_wp2_with fail
        go_ret3
        rw [hv.out, if_pos hlen]
        exact ⟨rfl, hb⟩
      · go_wp2_with fail
        refine (check_no out wr (by omega)).mono ?_
        rintro e w1 ⟨rfl, rfl⟩
        go_wp2_with fail
        go_ret3
        rw [hv.out, if_neg hlen]
        exact ⟨rfl, hb⟩
end Go.Proofs.Ytffdcfannnmjnaa
