/- NameBack returns true for any two names and any bytes. The walk. -/
import Derived.Test.YtffdcfannnmjnaaNameK
import Derived.Test.YtffdcfannnmjnaaLabelBackW
import Derived.Test.YtffdcfannnmjnaaNameCallsW
namespace Go.Proofs.Ytffdcfannnmjnaa
open Go.RowKit
theorem dotL_cons (x : List UInt8) (r : Nm) : dotL (x :: r) = textL x ++ 46 :: dotL r := by simp [dotL]
theorem labF_dot : ∀ (r : Nm) (x : List UInt8) (f : Nat) (out : Nm), (∀ s ∈ x :: r, okLab s) → r.length < f → labF f (dotL (x :: r)) out = (out ++ x :: r, true, 0)
  | r, x, 0, out, _, hf => by omega
  | [], x, f + 1, out, h, _ => by
    have hx : 1 ≤ x.length ∧ x.length ≤ 63 := h x List.mem_cons_self
    rw [dotL_cons, labF, parse_text x (46 :: dotL []) (.inr ⟨_, rfl⟩)]
    simp only
    rw [if_pos hx, if_neg (by simp), if_pos (by simp [dotL])]
  | y :: r, x, f + 1, out, h, hf => by
    have hx : 1 ≤ x.length ∧ x.length ≤ 63 := h x List.mem_cons_self
    have ih := labF_dot r y f (out ++ [x]) (fun s hs => h s (List.mem_cons_of_mem _ hs)) (by simp at hf; omega)
    have hd : 0 < (dotL (y :: r)).length := by rw [dotL_cons]; simp; omega
    rw [dotL_cons, labF, parse_text x (46 :: dotL (y :: r)) (.inr ⟨_, rfl⟩)]
    simp only
    rw [if_pos hx, if_neg (by simp), if_neg (by rw [List.length_append, List.length_cons]; omega)]
    have e : (textL x ++ 46 :: dotL (y :: r)).drop ((textL x).length + 1) = dotL (y :: r) := by
      have : textL x ++ 46 :: dotL (y :: r) = (textL x ++ [46]) ++ dotL (y :: r) := by simp
      rw [this, List.drop_left' (by simp)]
    rw [e, ih]; simp
theorem dotL_ge (x : List UInt8) (r : Nm) (h : okLab x) : 2 ≤ (dotL (x :: r)).length := by
  have := textL_pos x h.1
  rw [dotL_cons]; simp; omega
theorem text_ok {l : Nm} (hc : checkL l = 0) : ∃ T, textN l = (T, 0) ∧ T.length ≤ 1000000 ∧ parseN T = (l, 0) ∧ ∀ o, checkL o = 0 → relN T o = (l, 0) := by
  have hok := (checkL_zero hc).1
  have hlen := checkL_len hc
  cases l with
  | nil =>
    refine ⟨[46], rfl, by decide, rfl, fun o ho => ?_⟩
    unfold relN; rw [if_neg (by simp [ho]), if_neg (by decide), if_pos rfl]
  | cons x r =>
    have h2 := dotL_ge x r (hok x List.mem_cons_self)
    have hL : labsL (dotL (x :: r)) = (x :: r, true, 0) := by
      unfold labsL
      rw [labF_dot r x _ [] hok ?_]
      · rfl
      · have h3 : ∀ r : Nm, r.length ≤ (dotL r).length := fun r => by
          induction r with
          | nil => simp
          | cons y t ih => rw [dotL_cons]; simp; omega
        have := h3 (x :: r)
        simp at this ⊢; omega
    have hT : textN (x :: r) = (dotL (x :: r), 0) := by unfold textN; rw [if_neg (by simp [hc]), if_neg (by simp)]
    have n46 : dotL (x :: r) ≠ [46] := fun e => by rw [e] at h2; simp at h2
    have n64 : dotL (x :: r) ≠ [64] := fun e => by rw [e] at h2; simp at h2
    have hP : parseN (dotL (x :: r)) = (x :: r, 0) := by
      unfold parseN; rw [if_neg n46, hL]; simp [hc]
    refine ⟨_, hT, ?_, hP, fun o ho => ?_⟩
    · have := dotL_len (x :: r) (checkL_63 hc)
      omega
    · unfold relN; rw [if_neg (by simp [ho]), if_neg n64, if_neg n46, hL]; simp [hP]
set_option maxHeartbeats 16000000 in
set_option maxRecDepth 100000 in
theorem nameBack_walk {W : World} {a b d : Option Addr} {na ca nb cb nd cd : Nat} {la lb : Nm} {ld : List UInt8} (h1 : RT W a na ca la) (h2 : RT W b nb cb lb) (h3 : RB W d nd cd ld) :
    Calls Try.prog 17 #[.slice a na ca, .slice b nb cb, .slice d nd cd] W fun e w' => e = .returned (.bool true) ∧ Below W.heap.size W w' := by
  have za : na ≤ 8796093022208 := by
    have := h1.rd.cap
    have := h1.most
    simp only [reachBytes] at this
    omega
  have zb : nb ≤ 8796093022208 := by
    have := h2.rd.cap
    have := h2.most
    simp only [reachBytes] at this
    omega
  have zd : nd ≤ 140737488351232 := by
    have := h3.rd.cap
    have := h3.most
    simp only [reachBytes] at this
    omega
  have hA := Lib.hid h1.rd
  have hB := Lib.hid h2.rd
  have hD := Lib.hid h3.rd
  clear h1 h2 h3
  by_cases c1 : checkL la = 0
  · by_cases c2 : checkL lb = 0
    · obtain ⟨T, hT, hTl, hP, hR⟩ := text_ok c1
      have hR := hR lb c2
      have b1 := checkL_len c1
      have hla := Lib.hid hA.out.len
      obtain ⟨i0, hi, hz0, hz1, hz2⟩ := info_parts Try.info5
      have olh := Lib.hid (octL_len la)
      have os := (checkL_zero c1).2
      have og := sizeL_ge la
      go_enter Try.func17, Try.ntmps17
      go_wp2_with fail
      refine (check_any hA.out za).mono ?_
      rw [c1]
      rintro e w1 ⟨rfl, rfl⟩
      go_wp2_with fail
      refine (check_any hB.out zb).mono ?_
      rw [c2]
      rintro e w1 ⟨rfl, rfl⟩
      go_wp2_with fail
      refine (textN_any hA.out za).mono ?_
      rw [hT]
      dsimp only
      rintro e w1 ⟨rfl, hb1⟩
      go_wp2_with fail
      refine (parse_any (M := 63) (by omega) T _ hTl).mono ?_
      rw [hP]
      dsimp only
      rintro e w2 ⟨⟨v, rfl, ho⟩, k2⟩
      obtain ⟨a2, c2', hv, _⟩ := ho.rd
      subst hv
      have hb2 : Below W.heap.size W w2 := hb1.trans (k2.mono hb1.size)
      have ho2 := Lib.hid ho
      clear ho
      go_wp2_with fail
      refine (rel_any (M := 63) (by omega) T hTl (hB.out.ext hb2) zb).mono ?_
      rw [hR]
      dsimp only
      rintro e w3 ⟨⟨v, rfl, ho⟩, k3⟩
      obtain ⟨a3, c3', hv, _⟩ := ho.rd
      subst hv
      have hb3 : Below W.heap.size W w3 := hb2.trans (k3.mono hb2.size)
      have ho3 := Lib.hid ho
      have ho2b := Lib.hid (ho2.out.ext k3)
      clear ho ho2
      go_wp2_with fail
      refine (bytes_ok (hA.out.ext hb3) c1).mono ?_
      rintro e w4 ⟨⟨v, rfl, ho⟩, k4⟩
      obtain ⟨a4, c4, hv, hr4⟩ := ho.rd
      subst hv
      have hb4 : Below W.heap.size W w4 := hb3.trans (k4.mono hb3.size)
      have hr4' := Lib.hid hr4
      have ho3b := Lib.hid (ho3.out.ext k4)
      have ho2c := Lib.hid (ho2b.out.ext k4)
      clear ho hr4 ho3 ho2b
      go_wp2_with fail
      refine (copy_bytes hr4'.out (by have := olh.out; omega)).mono ?_
      rintro e w5 ⟨⟨v, rfl, ho⟩, k5⟩
      obtain ⟨a5, c5, hv⟩ := ho.shape
      subst hv
      have hb5 : Below W.heap.size W w5 := hb4.trans (k5.mono hb4.size)
      have ho5 := Lib.hid ho
      have hsrc := Lib.hid ((hD.out.ext hb5).src (P := Try.prog) (tx := 27) Try.underlying27)
      clear ho
      have hdl := Lib.hid hD.out.len
      go_wp2_with (at_builtin; refine app_own (E := byteE) rfl (.tmp 72) (.tmp 73) 27 27 rfl Try.underlying27 hi hz0 hz1 hz2 rfl rfl ho5.out rfl hsrc.out ?c1 ?c2 k5.size ?_)
      case c1 => have := hdl.out; have := olh.out; simp [maxLen]; omega
      case c2 => have := hdl.out; have := olh.out; simp; omega
      intro v6 w6 h6 hg6 _
      obtain ⟨a6, c6, hv6, hr6⟩ := h6.rd
      subst hv6
      have k6 : Below w4.heap.size w5 w6 := (Below.refl _ w5).grown hg6 k5.size fun k hk => (ho5.out.lt k hk).1
      have hb6 : Below W.heap.size W w6 := hb5.trans (k6.mono hb4.size)
      have hq : (octL la ++ ld).length = (octL la).length + ld.length := List.length_append
      rw [hq] at hr6
      have hqh := Lib.hid hq
      have hr6' := Lib.hid hr6
      have ho3d := Lib.hid (ho3b.out.ext (k5.trans k6))
      have ho2d := Lib.hid (ho2c.out.ext (k5.trans k6))
      clear hr6 h6 ho3b ho2c hq
      go_wp2_with fail
      refine (read_ok (M := 63) (by omega) hr6'.out c1 (by have := olh.out; have := hdl.out; omega)).mono ?_
      rintro e w7 ⟨⟨v, rfl, ho⟩, k7⟩
      obtain ⟨a7, c7, hv, hr7⟩ := ho.rd
      subst hv
      have hb7 : Below W.heap.size W w7 := hb6.trans (k7.mono hb6.size)
      have ho7 := Lib.hid ho
      have ho3e := Lib.hid (ho3d.out.ext k7)
      have ho2e := Lib.hid (ho2d.out.ext k7)
      clear ho hr7 ho3d ho2d
      go_wp2_with fail
      refine (same_name ho2e.out.rd' (hA.out.ext hb7)).mono ?_
      rw [beq_self_eq_true]
      rintro e w8 ⟨rfl, k8⟩
      have hb8 : Below W.heap.size W w8 := hb7.trans (k8.mono hb7.size)
      go_wp2_with fail
      refine (same_name (ho3e.out.ext k8).rd' (hA.out.ext hb8)).mono ?_
      rw [beq_self_eq_true]
      rintro e w9 ⟨rfl, k9⟩
      have hb9 : Below W.heap.size W w9 := hb8.trans (k9.mono hb8.size)
      go_wp2_with fail
      refine (same_name ((ho7.out.ext k8).ext k9).rd' (hA.out.ext hb9)).mono ?_
      rw [beq_self_eq_true]
      rintro e w10 ⟨rfl, k10⟩
      have hb10 : Below W.heap.size W w10 := hb9.trans (k10.mono hb9.size)
      have ol' : ((octL la).length : Int) = sizeL la := by have := olh.out; omega
      go_wp2_with fail
      refine (size_any (hA.out.ext hb10) (by omega)).mono ?_
      rintro e w11 ⟨rfl, rfl⟩
      have og2 : (0 : Int) < sizeL la := by omega
      go_wp2_with fail
      go_ret
      exact ⟨rfl, hb10⟩
    · have c2' : ¬ ((checkL lb : Int) = 0) := by omega
      have p46 : parseN [46] = ([], 0) := rfl
      have p0 : parseN [] = ([], 4) := rfl
      go_enter Try.func17, Try.ntmps17
      go_wp2_with fail
      refine (check_any hA.out za).mono ?_
      rw [c1]
      rintro e w1 ⟨rfl, rfl⟩
      go_wp2_with fail
      refine (check_any hB.out zb).mono ?_
      rintro e w1 ⟨rfl, rfl⟩
      go_wp2_with fail
      refine (parse_any (M := 63) (by omega) [46] _ (by decide)).mono ?_
      rw [p46]
      dsimp only
      rintro e w2 ⟨⟨v, rfl, ho⟩, k2⟩
      obtain ⟨a2, c2', hv⟩ := ho.shape
      subst hv
      go_wp2_with fail
      refine (parse_any (M := 63) (by omega) [] _ (by decide)).mono ?_
      rw [p0]
      dsimp only
      rintro e w3 ⟨⟨v, rfl, ho⟩, k3⟩
      obtain ⟨a3, c3', hv⟩ := ho.shape
      subst hv
      go_wp2_with fail
      go_ret
      exact ⟨rfl, k2.trans (k3.mono k2.size)⟩
  · have c1' : ¬ ((checkL la : Int) = 0) := by omega
    have p46 : parseN [46] = ([], 0) := rfl
    have p0 : parseN [] = ([], 4) := rfl
    go_enter Try.func17, Try.ntmps17
    go_wp2_with fail
    refine (check_any hA.out za).mono ?_
    rintro e w1 ⟨rfl, rfl⟩
    go_wp2_with fail
    refine (parse_any (M := 63) (by omega) [46] _ (by decide)).mono ?_
    rw [p46]
    dsimp only
    rintro e w2 ⟨⟨v, rfl, ho⟩, k2⟩
    obtain ⟨a2, c2', hv⟩ := ho.shape
    subst hv
    go_wp2_with fail
    refine (parse_any (M := 63) (by omega) [] _ (by decide)).mono ?_
    rw [p0]
    dsimp only
    rintro e w3 ⟨⟨v, rfl, ho⟩, k3⟩
    obtain ⟨a3, c3', hv⟩ := ho.shape
    subst hv
    go_wp2_with fail
    go_ret
    exact ⟨rfl, k2.trans (k3.mono k2.size)⟩
theorem nameBack_law {W : World} (a : Option Addr) (na ca : Nat) (la : Nm) (h1 : RT W a na ca la) (b : Option Addr) (nb cb : Nat) (lb : Nm) (h2 : RT W b nb cb lb) (d : Option Addr) (nd cd : Nat) (ld : List UInt8) (h3 : RB W d nd cd ld) (_ : World) :
    Calls Try.prog 17 #[.slice a na ca, .slice b nb cb, .slice d nd cd] W fun e w' => e = .returned (.bool true) ∧ Below W.heap.size W w' := nameBack_walk h1 h2 h3
end Go.Proofs.Ytffdcfannnmjnaa
