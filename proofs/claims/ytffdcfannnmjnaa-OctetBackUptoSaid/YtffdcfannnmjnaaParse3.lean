/- Layer 2, labels: the reference's Parse computes the same. Texts of at most 2^40 bytes. -/
import Derived.Test.YtffdcfannnmjnaaParse2
namespace Go.Proofs.Ytffdcfannnmjnaa
open Go.RowKit

set_option maxHeartbeats 4000000 in
theorem escaped_any (r : List UInt8) (w : World) (hs : (92 :: r).length ≤ 140737488355328) :
    Calls Try.prog 103 #[.string (mk (92 :: r))] w fun e w' => e = .returned (nextV (92 :: r)) ∧ Below w.heap.size w w' := by
  have h2' : (((92 : UInt8).toNat : Int) != 92) = false := by decide
  have h3' : ((92 : UInt8).toNat : Int) = 92 := by decide
  match r, hs with
  | [], hs =>
    go_enter Try.func103, Try.ntmps103
    go_wp2
    all_goals (go_ret2; exact ⟨rfl, by first | exact Below.refl _ _ | exact below_drewN (Below.refl _ _) _⟩)
  | d :: r2, hs =>
    have i0 : (0:Int) < (r2.length : Int) + 1 + 1 := by omega
    have i1 : (1:Int) < (r2.length : Int) + 1 + 1 := by omega
    by_cases h4 : d.toNat < 33 ∨ 126 < d.toNat
    · have hv : nextV (92 :: d :: r2) = .tuple #[.int .u8 0, .int .i64 0] := by simp [nextV, nextL, h4]
      rw [hv]; clear hv
      rcases h4 with h4 | h4
      · go_enter Try.func103, Try.ntmps103
        go_wp2
        all_goals (go_ret2; exact ⟨rfl, by first | exact Below.refl _ _ | exact below_drewN (Below.refl _ _) _⟩)
      · go_enter Try.func103, Try.ntmps103
        go_wp2
        all_goals (go_ret2; exact ⟨rfl, by first | exact Below.refl _ _ | exact below_drewN (Below.refl _ _) _⟩)
    · cases h5 : digB d with
      | false =>
        have hv : nextV (92 :: d :: r2) = .tuple #[.int .u8 d.toNat, .int .i64 2] := by simp [nextV, nextL, h4, h5]
        rw [hv]; clear hv
        rcases digB_no h5 with h6 | h6
        · clear h5
          have b1 : decide ((48:Int) ≤ (d.toNat:Int)) = false := by simp; omega
          go_enter Try.func103, Try.ntmps103
          go_wp2
          all_goals (go_ret2; exact ⟨rfl, by first | exact Below.refl _ _ | exact below_drewN (Below.refl _ _) _⟩)
        · clear h5
          have b1 : decide ((d.toNat:Int) ≤ 57) = false := by simp; omega
          go_enter Try.func103, Try.ntmps103
          go_wp2
          all_goals (go_ret2; exact ⟨rfl, by first | exact Below.refl _ _ | exact below_drewN (Below.refl _ _) _⟩)
      | true =>
        obtain ⟨h6, h7⟩ := digB_yes h5
        match r2, hs with
        | [], hs =>
          have hv : nextV [92, d] = .tuple #[.int .u8 0, .int .i64 0] := by simp [nextV, nextL, h4, h5]
          rw [hv]; clear hv h5
          go_enter Try.func103, Try.ntmps103
          go_wp2
          all_goals (go_ret2; exact ⟨rfl, by first | exact Below.refl _ _ | exact below_drewN (Below.refl _ _) _⟩)
        | [e], hs =>
          have hv : nextV [92, d, e] = .tuple #[.int .u8 0, .int .i64 0] := by simp [nextV, nextL, h4, h5]
          rw [hv]; clear hv h5
          go_enter Try.func103, Try.ntmps103
          go_wp2
          all_goals (go_ret2; exact ⟨rfl, by first | exact Below.refl _ _ | exact below_drewN (Below.refl _ _) _⟩)
        | e :: f :: r3, hs =>
          clear i0 i1
          have i0 : (0:Int) < (r3.length : Int) + 1 + 1 + 1 + 1 := by omega
          have i1 : (1:Int) < (r3.length : Int) + 1 + 1 + 1 + 1 := by omega
          have i2 : (2:Int) < (r3.length : Int) + 1 + 1 + 1 + 1 := by omega
          have i3 : (3:Int) < (r3.length : Int) + 1 + 1 + 1 + 1 := by omega
          cases he : digB e with
          | false =>
            have hv : nextV (92 :: d :: e :: f :: r3) = .tuple #[.int .u8 0, .int .i64 0] := by simp [nextV, nextL, h4, h5, he]
            rw [hv]; clear hv h5
            have b1 : decide ((48:Int) ≤ (e.toNat:Int)) = false ∨ decide ((e.toNat:Int) ≤ 57) = false := by simp; have := digB_no he; omega
            rcases b1 with b1 | b1
            all_goals
              clear he
              go_enter Try.func103, Try.ntmps103
              go_wp2
              all_goals (go_ret2; exact ⟨rfl, by first | exact Below.refl _ _ | exact below_drewN (Below.refl _ _) _⟩)
          | true =>
            obtain ⟨h8, h9⟩ := digB_yes he
            cases hf : digB f with
            | false =>
              have hv : nextV (92 :: d :: e :: f :: r3) = .tuple #[.int .u8 0, .int .i64 0] := by simp [nextV, nextL, h4, h5, he, hf]
              rw [hv]; clear hv h5
              have b1 : decide ((48:Int) ≤ (f.toNat:Int)) = false ∨ decide ((f.toNat:Int) ≤ 57) = false := by simp; have := digB_no hf; omega
              rcases b1 with b1 | b1
              all_goals
                clear he hf
                go_enter Try.func103, Try.ntmps103
                go_wp2
                all_goals (go_ret2; exact ⟨rfl, by first | exact Below.refl _ _ | exact below_drewN (Below.refl _ _) _⟩)
            | true =>
              obtain ⟨h10, h11⟩ := digB_yes hf
              by_cases hb : 255 < 100 * (d.toNat - 48) + 10 * (e.toNat - 48) + (f.toNat - 48)
              · have hv : nextV (92 :: d :: e :: f :: r3) = .tuple #[.int .u8 0, .int .i64 0] := by simp [nextV, nextL, h4, h5, he, hf, hb]
                rw [hv]; clear hv h5 he hf
                go_enter Try.func103, Try.ntmps103
                go_wp2
                go_quiet (fail)
                go_wp2
                all_goals (go_ret2; exact ⟨rfl, by first | exact Below.refl _ _ | exact below_drewN (Below.refl _ _) _⟩)
              · have hv : nextV (92 :: d :: e :: f :: r3) = .tuple #[.int .u8 ((100 * (d.toNat - 48) + 10 * (e.toNat - 48) + (f.toNat - 48) : Nat) : Int), .int .i64 4] := by
                  simp [nextV, nextL, h4, h5, he, hf, hb]; omega
                rw [hv]; clear hv h5 he hf
                go_enter Try.func103, Try.ntmps103
                go_wp2
                go_quiet (fail)
                go_wp2
                all_goals (go_ret2; exact ⟨congrArg (fun z => Ending.returned (.tuple #[.int .u8 z, .int .i64 4])) (by omega), below_drewN (Below.refl _ _) _⟩)

theorem rcheck_yes (l : List UInt8) (w : World) (h : 1 ≤ l.length ∧ l.length ≤ 63) : Calls Try.prog 66 #[.string (mk l)] w fun e w' => e = .returned (.int .i64 0) ∧ w = w' := by
  obtain ⟨h1, h2⟩ := h
  go_enter Try.func66, Try.ntmps66
  go_wp2
  go_ret
  exact ⟨rfl, rfl⟩
theorem rcheck_no (l : List UInt8) (w : World) (h : l.length < 1 ∨ 63 < l.length) : Calls Try.prog 66 #[.string (mk l)] w fun e w' => e = .returned (.int .i64 4) ∧ w = w' := by
  rcases h with h | h
  · go_enter Try.func66, Try.ntmps66
    go_wp2
    go_ret
    exact ⟨rfl, rfl⟩
  · go_enter Try.func66, Try.ntmps66
    go_wp2
    go_ret
    exact ⟨rfl, rfl⟩

set_option maxHeartbeats 2000000 in
theorem refParse_any (l : List UInt8) (w : World) (hs : l.length ≤ 1099511627776) :
    Calls Try.prog 34 #[.string (mk l)] w fun e w' => e = .returned (parseV l) ∧ Below w.heap.size w w' := by
  go_enter Try.func34, Try.ntmps34
  go_wp2
  go_loopw [5, 6] (fun v i wr => ∃ (k : Nat) (out : List UInt8), k ≤ l.length ∧ i = .int .i64 k ∧ wr.ownsRow w.heap.size 5 1 v out.length (u8s out) ∧ out.length ≤ k ∧ Below w.heap.size w wr ∧ Hid (parseL l = pre out k (parseL (l.drop k))))
    (fun _ i _ => l.length - (intOf i).toNat)
  case atStart => exact ⟨0, [], Nat.zero_le _, rfl, World.ownsRow_nil _ _ _ _, Nat.zero_le _, Below.refl _ _, by simp [pre_nil, Hid]⟩
  case round =>
    obtain ⟨k, out, hk, rfl, hown, hok, hb, hp⟩ := hrel
    by_cases hlt : k < l.length
    · have hx : l.drop k = l[k] :: l.drop (k+1) := List.drop_eq_getElem_cons hlt
      have hx' := Lib.hid hx; clear hx
      by_cases hd : l[k] = 46
      · have hd' : ((l[k].toNat : Int) != 46) = false := by simp [hd]
        have hd2 := Lib.hid hd; clear hd
        have hv : Hid (parseV l = if 1 ≤ out.length ∧ out.length ≤ 63 then .tuple #[.string (mk out), .int .i64 k, .int .i64 0] else .tuple #[.string (mk []), .int .i64 0, .int .i64 4]) := by
          unfold parseV Hid
          rw [hp.out, hx'.out, hd2.out, parse_dot]; simp [pre]
        have hcv := run_str_own (P := Try.prog) wr 27 9 5 Try.underlying27 Try.underlying5 Try.underlying9 hown
        by_cases hlen : 1 ≤ out.length ∧ out.length ≤ 63
        · go_wp2_with fail
          refine (rcheck_yes out wr hlen).mono ?_
          rintro e w1 ⟨rfl, rfl⟩
          go_wp2_with fail
          go_ret3
          rw [hv.out, if_pos hlen]
          exact ⟨rfl, hb⟩
        · go_wp2_with fail
          refine (rcheck_no out wr (by omega)).mono ?_
          rintro e w1 ⟨rfl, rfl⟩
          go_wp2_with fail
          go_ret3
          rw [hv.out, if_neg hlen]
          exact ⟨rfl, hb⟩
      · have hd' : ((l[k].toNat : Int) != 46) = true := by
          rw [bne_iff_ne]; have := ne_toNat hd; simp at this; omega
        have hd2 := Lib.hid hd; clear hd
        by_cases h92 : l[k] = 92
        · have h3' : ((l[k].toNat : Int) == 92) = true := by rw [h92]; rfl
          have h4' : Hid (l.drop k = 92 :: l.drop (k+1)) := by unfold Hid; rw [hx'.out, h92]
          clear h92
          go_wp2_with fail
          rw [h4'.out]
          refine (escaped_any (l.drop (k+1)) wr (by simp; omega)).mono ?_
          rw [← h4'.out]
          rintro e w1 ⟨rfl, hb1⟩
          cases hn : nextL (l.drop k) with
          | none =>
            have hnv : nextV (l.drop k) = .tuple #[.int .u8 0, .int .i64 0] := by simp [nextV, hn]
            rw [hnv]
            have hv : Hid (parseV l = .tuple #[.string (mk []), .int .i64 0, .int .i64 120]) := by
              unfold parseV Hid
              rw [hx'.out] at hn
              rw [hp.out, hx'.out, parse_none hd2.out hn]; rfl
            clear hn hnv
            go_wp2_with fail
            go_ret3
            rw [hv.out]
            exact ⟨rfl, nx hb hb1 (Nat.le_refl _)⟩
          | some p =>
            obtain ⟨d, n⟩ := p
            have hnv : nextV (l.drop k) = .tuple #[.int .u8 d.toNat, .int .i64 n] := by simp [nextV, hn]
            rw [hnv]
            obtain ⟨n1, n2⟩ := nextL_len hn
            have hp' : Hid (parseL l = pre (out ++ [d]) (k + n) (parseL (l.drop (k + n)))) := by
              unfold Hid
              have e := hx'.out
              rw [e] at hn
              rw [hp.out, e, parse_some hd2.out hn, pre_step, ← e, List.drop_drop]
            rw [List.length_drop] at n2
            replace n2 : k + n ≤ l.length := by omega
            have n3 : ((n : Int) == 0) = false := by simp; omega
            clear hn hnv
            have hown1 := ownsRow_ext hown hb1
            go_wp2_with (at_builtin; refine app_byte (w := w1) rfl (.tmp 39) (.tmp 41) rfl rfl d hown1 rfl _ rfl ?c1 ?c2 ?_)
            case c1 => omega
            case c2 => have := hb.size; have := hb1.size; omega
            intro v' w2 hown2 hg
            go_wp2
            go_roundw
            case rel =>
              refine ⟨k + n, out ++ [d], by omega, by go_num, by simpa using hown2, by simp; omega, below_app (nx hb hb1 (Nat.le_refl _)) hg hown1 (by have := hb.size; have := hb1.size; omega) (Nat.le_refl _), hp'⟩
            case measure => simp [intOf]; omega
        · have h3' : ((l[k].toNat : Int) == 92) = false := by have := ne_toNat h92; simp at this ⊢; omega
          by_cases h5 : l[k].toNat < 33 ∨ 126 < l[k].toNat
          · have hv : Hid (parseV l = .tuple #[.string (mk []), .int .i64 0, .int .i64 120]) := by
              unfold parseV Hid
              rw [hp.out, hx'.out, parse_none hd2.out (by simp [nextL, h5])]; rfl
            clear h92
            rcases h5 with h5 | h5
            all_goals
              go_wp2_with fail
              all_goals
                go_ret3
                rw [hv.out]
                exact ⟨rfl, hb⟩
          · have hp' : Hid (parseL l = pre (out ++ [l[k]]) (k + 1) (parseL (l.drop (k + 1)))) := by
              unfold Hid
              have e := hx'.out
              rw [hp.out, e, parse_some hd2.out (d := l[k]) (n := 1) (by simp [nextL, h5, h92]), pre_step, ← e, List.drop_drop]
            clear h92
            go_wp2_with (at_builtin; refine app_byte (w := wr) rfl (.tmp 39) (.tmp 41) rfl rfl l[k] hown rfl _ rfl ?d1 ?d2 ?_)
            case d1 => omega
            case d2 => have := hb.size; omega
            intro v' w2 hown2 hg
            go_wp2
            go_roundw
            case rel =>
              refine ⟨k + 1, out ++ [l[k]], by omega, by go_num, by simpa using hown2, by simp; omega, below_app hb hg hown (by have := hb.size; omega) (Nat.le_refl _), hp'⟩
            case measure => simp [intOf]; omega
    · have hk' : l.drop k = [] := List.drop_eq_nil_of_le (by omega)
      have hv : Hid (parseV l = if 1 ≤ out.length ∧ out.length ≤ 63 then .tuple #[.string (mk out), .int .i64 k, .int .i64 0] else .tuple #[.string (mk []), .int .i64 0, .int .i64 4]) := by
        unfold parseV Hid
        rw [hp.out, hk', parse_nil]; simp [pre]
      clear hk'
      have hcv := run_str_own (P := Try.prog) wr 27 9 5 Try.underlying27 Try.underlying5 Try.underlying9 hown
      by_cases hlen : 1 ≤ out.length ∧ out.length ≤ 63
      · go_wp2_with fail
        refine (rcheck_yes out wr hlen).mono ?_
        rintro e w1 ⟨rfl, rfl⟩
        go_wp2_with fail
        go_ret3
        rw [hv.out, if_pos hlen]
        exact ⟨rfl, hb⟩
      · go_wp2_with fail
        refine (rcheck_no out wr (by omega)).mono ?_
        rintro e w1 ⟨rfl, rfl⟩
        go_wp2_with fail
        go_ret3
        rw [hv.out, if_neg hlen]
        exact ⟨rfl, hb⟩
end Go.Proofs.Ytffdcfannnmjnaa
