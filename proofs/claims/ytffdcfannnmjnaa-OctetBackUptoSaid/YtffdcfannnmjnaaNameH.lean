/- Layer 3: texts of names, and names of texts. Texts of at most 1,000,000 bytes. -/
import Derived.Test.YtffdcfannnmjnaaNameG
import Derived.Test.YtffdcfannnmjnaaRdrD
import Derived.Test.YtffdcfannnmjnaaText
import Derived.Deep.RegionLaw
namespace Go.Proofs.Ytffdcfannnmjnaa
open Go.RowKit
theorem parse_len : ∀ (f : Nat) (l : List UInt8), l.length ≤ f → ∀ x n, parseL l = some (x, n) → n ≤ l.length ∧ x.length ≤ n
  | 0, l, hf, x, n, h => by
    have : l = [] := List.eq_nil_of_length_eq_zero (by omega)
    subst this
    rw [parse_nil] at h; cases h; simp
  | f + 1, [], _, x, n, h => by rw [parse_nil] at h; cases h; simp
  | f + 1, c :: r, hf, x, n, h => by
    by_cases hc : c = 46
    · subst hc; rw [parse_dot] at h; cases h; simp
    · cases hn : nextL (c :: r) with
      | none => rw [parse_none hc hn] at h; cases h
      | some p =>
        obtain ⟨d, m⟩ := p
        rw [parse_some hc hn] at h
        have hm := nextL_len hn
        cases hq : parseL ((c :: r).drop m) with
        | none => rw [hq] at h; cases h
        | some q =>
          obtain ⟨y, k⟩ := q
          rw [hq] at h
          simp only [Option.map_some, Option.some.injEq, Prod.mk.injEq] at h
          obtain ⟨rfl, rfl⟩ := h
          have := parse_len f ((c :: r).drop m) (by simp at hf ⊢; omega) y k hq
          simp at this hm ⊢; omega
theorem parseL_le {l x : List UInt8} {n : Nat} (h : parseL l = some (x, n)) : n ≤ l.length ∧ x.length ≤ n := parse_len l.length l (Nat.le_refl _) x n h
/-- labels with dots between -/
def labF : Nat → List UInt8 → Nm → Nm × Bool × Nat
  | 0, _, _ => ([], false, 0)
  | f + 1, s, out => match parseL s with
    | none => ([], false, 120)
    | some (x, n) => if 1 ≤ x.length ∧ x.length ≤ 63 then (if n = s.length then (out ++ [x], false, 0) else if n + 1 = s.length then (out ++ [x], true, 0) else labF f (s.drop (n + 1)) (out ++ [x])) else ([], false, 4)
def labsL (s : List UInt8) : Nm × Bool × Nat := labF (s.length + 1) s []
/-- an append of the walk's own texts, as a step of a region that draws -/
theorem step_ownT {M : Nat} {ops : Array Oper} {o : Oper} {a : Act} {W : World} {K : Act → World → Prop} {Q : Exit → Act → World → Prop} {Ep : Prop} (hgd : o.guard = none) (s x : Operand) (t tx : TypeId)
    (ho : o.op = .call { callee := .builtin .append, args := #[s, x], argTypes := #[t, tx] }) (ht : Try.prog.underlying t = some (.slice 9)) (htx : Try.prog.underlying tx = some (.slice 9)) {base : Nat} {v : Value} {ax : Option Addr} {nx cx : Nat} {l news : Nm} (hs : a.eval s = v) (hown : OwnT M W base v l) (hx : a.eval x = .slice ax nx cx) (hsrc : Rd strE W ax nx cx news)
    (hM : ∀ s ∈ news, s.length ≤ M) (hbytes : l.length + news.length ≤ 8796093022208) (hbase : base ≤ W.heap.size)
    (h : ∀ v' w', OwnT M w' base v' (l ++ news) → W.grownBy w' v.ownBlock → (v'.ownBlock = v.ownBlock ∨ v'.ownBlock = some W.heap.size) → K (a.put o.dst v') w') :
    if Region.wanted o (yielded ops a.tmps) = true then Oper.wp Try.prog o a W K Q else Ep := by
  obtain ⟨i0, hi, hz0, hz1, hz2⟩ := info_parts Try.info9
  obtain ⟨l', rfl, hown⟩ := hown
  obtain ⟨news', rfl⟩ := nm_lift news hM
  have h1 := hsrc.src (P := Try.prog) htx
  have e1 : (nmOf news').length = news'.length := by simp [nmOf]
  have e2 : (nmOf l').length = l'.length := by simp [nmOf]
  rw [e1, ← rowOf_strB] at h1
  rw [e1, e2] at hbytes
  refine step_own (E := strB M) hgd s x t tx ho ht hi hz0 hz1 hz2 rfl hs hown hx h1 (by simp [maxLen]; omega) (by omega) hbase ?_
  intro v' w' h2 h3 h4
  exact h v' w' ⟨l' ++ news', by simp [nmOf], h2⟩ h3 h4
theorem parseV_some {s x : List UInt8} {n : Nat} (h : parseL s = some (x, n)) (hx : 1 ≤ x.length ∧ x.length ≤ 63) : parseV s = .tuple #[.string (mk x), .int .i64 n, .int .i64 0] := by
  unfold parseV; rw [h]; simp only; rw [if_pos hx]
theorem parseV_long {s x : List UInt8} {n : Nat} (h : parseL s = some (x, n)) (hx : ¬ (1 ≤ x.length ∧ x.length ≤ 63)) : parseV s = .tuple #[.string (mk []), .int .i64 0, .int .i64 4] := by
  unfold parseV; rw [h]; simp only; rw [if_neg hx]
theorem parseV_none {s : List UInt8} (h : parseL s = none) : parseV s = .tuple #[.string (mk []), .int .i64 0, .int .i64 120] := by
  unfold parseV; rw [h]
set_option maxHeartbeats 4000000 in
set_option maxRecDepth 100000 in
theorem labels_any {M : Nat} (hM : 63 ≤ M) (s : List UInt8) (w : World) (hs : s.length ≤ 1000000) :
    Calls Try.prog 124 #[.string (mk s)] w fun e w' => (∃ v, e = .returned (.tuple #[v, .bool (labsL s).2.1, .int .i64 (labsL s).2.2]) ∧ OwnT M w' w.heap.size v (labsL s).1) ∧ Below w.heap.size w w' := by
  obtain ⟨R, hR⟩ : ∃ R, labsL s = R := ⟨_, rfl⟩
  rw [hR]
  go_enter Try.func124, Try.ntmps124
  go_wp2_with fail
  go_loopw [0, 5] (fun sv v wr => ∃ (f : Nat) (t : List UInt8) (out : Nm), sv = .string (mk t) ∧ t.length < f ∧ Hid (labF f t out = R) ∧ OwnT M wr w.heap.size v out ∧ out.length + t.length ≤ 1000000 ∧ Below w.heap.size w wr)
    (fun sv _ _ => match sv with | .string b => b.size | _ => 0)
  case atStart => exact ⟨s.length + 1, s, [], rfl, by omega, Lib.hid hR, OwnT.nil _ _ _, by simpa using hs, Below.refl _ _⟩
  case round =>
    clear hR
    obtain ⟨f, t, out, rfl, hf, hL, ho, hlen, hb⟩ := hrel
    obtain ⟨a1, cap1, rfl⟩ := ho.shape
    have ho' := Lib.hid ho
    clear ho
    obtain ⟨f, rfl⟩ : ∃ g, f = g + 1 := ⟨f - 1, by omega⟩
    cases hp : parseL t with
    | none =>
      have e := hL.out
      rw [labF, hp] at e
      simp only at e
      subst e
      go_wp2_with fail
      refine (labelParse_any t _ (by omega)).mono ?_
      rw [parseV_none hp]
      rintro e w1 ⟨rfl, hb1⟩
      go_wp2_with fail
      go_ret3
      exact ⟨⟨_, rfl, OwnT.nil _ _ _⟩, hb.trans (hb1.mono hb.size)⟩
    | some p =>
      obtain ⟨x, n⟩ := p
      have hn := parseL_le hp
      by_cases hx : 1 ≤ x.length ∧ x.length ≤ 63
      · have e := hL.out
        rw [labF, hp] at e
        simp only at e
        rw [if_pos hx] at e
        have e' := Lib.hid e
        have hx2 : x.length ≤ M := by omega
        clear e hL
        obtain ⟨hn1, hn2⟩ := hn
        have hnI : (n : Int) ≤ t.length := by omega
        have hV := parseV_some hp hx
        clear hp hx
        go_wp2_with fail
        refine (labelParse_any t _ (by omega)).mono ?_
        rw [hV]
        clear hV
        rintro e w1 ⟨rfl, hb1⟩
        have hb2 : Below w.heap.size w w1 := hb.trans (hb1.mono hb.size)
        have ho2 := Lib.hid (((ho'.out.ext hb1).ext ((Below.refl _ w1).drew)).ext ((Below.refl _ _).alloc (Nat.le_refl _) (.cells #[.string (mk x)] 9)))
        have hr2 := Lib.hid (lit_rd w1.drew x)
        have hb4 : Below w.heap.size w (w1.drew.alloc (.cells #[.string (mk x)] 9)) := hb2.drew.alloc hb2.size _
        go_wp2_with fail
        go_region_law (first | (refine step_ownT (by rfl) (.tmp 18) (.tmp 20) 49 49 (by rfl) Try.underlying49 Try.underlying49 (by rfl) ho2.out (by rfl) hr2.out (by intro s hs; simp at hs; subst hs; exact hx2) (by simp; omega) hb4.size ?_; intro v' w3 h3 hg _; obtain ⟨a3, cap3, hv3⟩ := h3.shape; subst hv3; have h3' := Lib.hid h3; have hb5 : Below w.heap.size w w3 := own_below hb4 hg ho2.out.own hb4.size (Nat.le_refl _); clear h3))
        by_cases h1 : n = t.length
        · have hd : t.drop n = [] := List.drop_eq_nil_of_le (by omega)
          have eR := e'.out
          rw [if_pos h1] at eR
          subst eR
          rw [hd]
          clear e' hd h1
          go_wp2_with fail
          go_ret3
          exact ⟨⟨_, rfl, by have := h3'.out; simpa using this⟩, hb5⟩
        · obtain ⟨c, r, hu⟩ : ∃ c r, t.drop n = c :: r := by
            cases h : t.drop n with
            | nil => have := congrArg List.length h; simp at this; omega
            | cons c r => exact ⟨c, r, rfl⟩
          have hr : r = t.drop (n + 1) := by
            have := List.drop_drop (l := t) (i := 1) (j := n)
            rw [hu] at this
            simpa using this
          have hrl : r.length + n + 1 = t.length := by
            have := congrArg List.length hu; simp at this; omega
          have eR := e'.out
          rw [if_neg h1] at eR
          rw [hu]
          by_cases h2 : r = []
          · have h2' : n + 1 = t.length := by subst h2; simp at hrl; omega
            rw [if_pos h2'] at eR
            subst eR h2
            clear e' hu hr h1 h2'
            go_wp2_with fail
            go_ret3
            exact ⟨⟨_, rfl, by have := h3'.out; simpa using this⟩, hb5⟩
          · have h2' : ¬ n + 1 = t.length := fun h => h2 (List.eq_nil_of_length_eq_zero (by omega))
            rw [if_neg h2', ← hr] at eR
            have q2 : r.isEmpty = false := by cases r with | nil => exact absurd rfl h2 | cons _ _ => rfl
            have hR2 := Lib.hid eR
            clear e' hu hr eR h1 h2'
            go_wp2_with fail
            go_roundw
            case rel => exact ⟨f, r, out ++ [x], rfl, by omega, hR2, by have := h3'.out; simpa using this, by simp; omega, hb5⟩
            case measure => simp [size_mk]; omega
      · have e := hL.out
        rw [labF, hp] at e
        simp only at e
        rw [if_neg hx] at e
        subst e
        go_wp2_with fail
        refine (labelParse_any t _ (by omega)).mono ?_
        rw [parseV_long hp hx]
        rintro e w1 ⟨rfl, hb1⟩
        go_wp2_with fail
        go_ret3
        exact ⟨⟨_, rfl, OwnT.nil _ _ _⟩, hb.trans (hb1.mono hb.size)⟩
set_option maxHeartbeats 4000000 in
set_option maxRecDepth 100000 in
theorem rlabels_any {M : Nat} (hM : 63 ≤ M) (s : List UInt8) (w : World) (hs : s.length ≤ 1000000) :
    Calls Try.prog 125 #[.string (mk s)] w fun e w' => (∃ v, e = .returned (.tuple #[v, .bool (labsL s).2.1, .int .i64 (labsL s).2.2]) ∧ OwnT M w' w.heap.size v (labsL s).1) ∧ Below w.heap.size w w' := by
  obtain ⟨R, hR⟩ : ∃ R, labsL s = R := ⟨_, rfl⟩
  rw [hR]
  go_enter Try.func125, Try.ntmps125
  go_wp2_with fail
  go_loopw [0, 5] (fun sv v wr => ∃ (f : Nat) (t : List UInt8) (out : Nm), sv = .string (mk t) ∧ t.length < f ∧ Hid (labF f t out = R) ∧ OwnT M wr w.heap.size v out ∧ out.length + t.length ≤ 1000000 ∧ Below w.heap.size w wr)
    (fun sv _ _ => match sv with | .string b => b.size | _ => 0)
  case atStart => exact ⟨s.length + 1, s, [], rfl, by omega, Lib.hid hR, OwnT.nil _ _ _, by simpa using hs, Below.refl _ _⟩
  case round =>
    clear hR
    obtain ⟨f, t, out, rfl, hf, hL, ho, hlen, hb⟩ := hrel
    obtain ⟨a1, cap1, rfl⟩ := ho.shape
    have ho' := Lib.hid ho
    clear ho
    obtain ⟨f, rfl⟩ : ∃ g, f = g + 1 := ⟨f - 1, by omega⟩
    cases hp : parseL t with
    | none =>
      have e := hL.out
      rw [labF, hp] at e
      simp only at e
      subst e
      go_wp2_with fail
      refine (refParse_any t _ (by omega)).mono ?_
      rw [parseV_none hp]
      rintro e w1 ⟨rfl, hb1⟩
      go_wp2_with fail
      go_ret3
      exact ⟨⟨_, rfl, OwnT.nil _ _ _⟩, hb.trans (hb1.mono hb.size)⟩
    | some p =>
      obtain ⟨x, n⟩ := p
      have hn := parseL_le hp
      by_cases hx : 1 ≤ x.length ∧ x.length ≤ 63
      · have e := hL.out
        rw [labF, hp] at e
        simp only at e
        rw [if_pos hx] at e
        have e' := Lib.hid e
        have hx2 : x.length ≤ M := by omega
        clear e hL
        obtain ⟨hn1, hn2⟩ := hn
        have hnI : (n : Int) ≤ t.length := by omega
        have hV := parseV_some hp hx
        clear hp hx
        go_wp2_with fail
        refine (refParse_any t _ (by omega)).mono ?_
        rw [hV]
        clear hV
        rintro e w1 ⟨rfl, hb1⟩
        have hb2 : Below w.heap.size w w1 := hb.trans (hb1.mono hb.size)
        have ho2 := Lib.hid ((ho'.out.ext hb1).ext ((Below.refl _ _).alloc (Nat.le_refl _) (.cells #[.string (mk x)] 9)))
        have hr2 := Lib.hid (lit_rd w1 x)
        have hb4 : Below w.heap.size w (w1.alloc (.cells #[.string (mk x)] 9)) := hb2.alloc hb2.size _
        go_wp2_with (at_builtin; refine app_ownT rfl (.tmp 18) (.tmp 20) 49 49 rfl Try.underlying49 Try.underlying49 rfl ho2.out rfl hr2.out ?c1 ?c2 hb4.size ?_)
        case c1 => intro s hs; simp at hs; subst hs; exact hx2
        case c2 => simp; omega
        intro v' w3 h3 hg _
        obtain ⟨a3, cap3, hv3⟩ := h3.shape
        subst hv3
        have h3' := Lib.hid h3
        have hb5 : Below w.heap.size w w3 := own_below hb4 hg ho2.out.own hb4.size (Nat.le_refl _)
        clear h3
        by_cases h1 : n = t.length
        · have eR := e'.out
          rw [if_pos h1] at eR
          subst eR h1
          clear e'
          go_wp2_with fail
          go_ret3
          exact ⟨⟨_, rfl, by have := h3'.out; simpa using this⟩, hb5⟩
        · have eR := e'.out
          rw [if_neg h1] at eR
          have q1 : ((n : Int) == (t.length : Int)) = false := by rw [beq_cast]; simp [h1]
          have hn3 : (n : Int) + 1 ≤ t.length := by omega
          by_cases h2 : n + 1 = t.length
          · rw [if_pos h2] at eR
            subst eR
            have hd : t.drop (n + 1) = [] := List.drop_eq_nil_of_le (by omega)
            have hd' := Lib.hid hd
            clear e' h1 hd
            go_wp2_with fail
            go_ret3
            exact ⟨⟨_, rfl, by have := h3'.out; simpa using this⟩, hb5⟩
          · rw [if_neg h2] at eR
            have hR2 := Lib.hid eR
            have hrl : (t.drop (n + 1)).length + n + 1 = t.length := by simp; omega
            clear e' h1 eR
            go_wp2_with fail
            go_roundw
            case rel => exact ⟨f, t.drop (n + 1), out ++ [x], rfl, by omega, hR2, by have := h3'.out; simpa using this, by simp; omega, hb5⟩
            case measure => simp [size_mk]; omega
      · have e := hL.out
        rw [labF, hp] at e
        simp only at e
        rw [if_neg hx] at e
        subst e
        go_wp2_with fail
        refine (refParse_any t _ (by omega)).mono ?_
        rw [parseV_long hp hx]
        rintro e w1 ⟨rfl, hb1⟩
        go_wp2_with fail
        go_ret3
        exact ⟨⟨_, rfl, OwnT.nil _ _ _⟩, hb.trans (hb1.mono hb.size)⟩
end Go.Proofs.Ytffdcfannnmjnaa
