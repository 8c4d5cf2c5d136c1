/- Layer 3: Parse, Relative, Text, and the document's. Texts of at most 1,000,000 bytes. -/
import Derived.Test.YtffdcfannnmjnaaNameH
namespace Go.Proofs.Ytffdcfannnmjnaa
open Go.RowKit
def parseN (s : List UInt8) : Nm × Nat := if s = [46] then ([], 0) else if (labsL s).2.2 ≠ 0 then ([], (labsL s).2.2) else if (labsL s).2.1 = false then ([], 5) else if checkL (labsL s).1 ≠ 0 then ([], checkL (labsL s).1) else ((labsL s).1, 0)
def relN (s : List UInt8) (o : Nm) : Nm × Nat := if checkL o ≠ 0 then ([], checkL o) else if s = [64] then (o, 0) else if s = [46] then ([], 0) else if (labsL s).2.2 ≠ 0 then ([], (labsL s).2.2) else if (labsL s).2.1 = true then parseN s else joinL (labsL s).1 o
theorem labF_len : ∀ (f : Nat) (s : List UInt8) (out : Nm), (labF f s out).1.length ≤ out.length + s.length + 1
  | 0, s, out => by simp [labF]
  | f + 1, s, out => by
    rw [labF]
    cases hp : parseL s with
    | none => simp
    | some p =>
      obtain ⟨x, n⟩ := p
      simp only
      split
      · split
        · simp
        · split
          · simp
          · have := labF_len f (s.drop (n + 1)) (out ++ [x])
            have h2 := parseL_le hp
            simp at this ⊢
            omega
      · simp
theorem labsL_len (s : List UInt8) : (labsL s).1.length ≤ s.length + 1 := by
  have := labF_len (s.length + 1) s []; simpa [labsL] using this
theorem mk_ne {s t : List UInt8} (h : s ≠ t) : (s == t) = false := by rw [beq_eq_false_iff_ne]; exact h
set_option maxHeartbeats 4000000 in
set_option maxRecDepth 100000 in
theorem parse_any {M : Nat} (hM : 63 ≤ M) (s : List UInt8) (w : World) (hs : s.length ≤ 1000000) :
    Calls Try.prog 95 #[.string (mk s)] w fun e w' => (∃ v, e = .returned (.tuple #[v, .int .i64 (parseN s).2]) ∧ OwnT M w' w.heap.size v (parseN s).1) ∧ Below w.heap.size w w' := by
  have hlen := labsL_len s
  by_cases h0 : s = [46]
  · subst h0
    have hP : parseN [46] = ([], 0) := rfl
    go_enter Try.func95, Try.ntmps95
    go_wp2_with fail
    go_ret2
    exact ⟨⟨_, rfl, OwnT.nil _ _ _⟩, Below.refl _ _⟩
  · have q0 := mk_ne h0
    obtain ⟨ll, lw, le, hR⟩ : ∃ a b c, labsL s = (a, b, c) := ⟨_, _, _, rfl⟩
    have hP : parseN s = if le ≠ 0 then ([], le) else if lw = false then ([], 5) else if checkL ll ≠ 0 then ([], checkL ll) else (ll, 0) := by
      unfold parseN; rw [if_neg h0, hR]
    rw [hR] at hlen
    simp only at hlen
    have hP := Lib.hid hP
    clear h0
    go_enter Try.func95, Try.ntmps95
    go_wp2_with fail
    refine (labels_any hM s w hs).mono ?_
    rw [hR]
    dsimp only
    rintro e w1 ⟨⟨v, rfl, ho⟩, hb⟩
    obtain ⟨a1, c1, hv, hr⟩ := ho.rd
    subst hv
    have ho' := Lib.hid ho
    have hr' := Lib.hid hr
    clear ho hr hR
    by_cases h1 : le = 0
    · subst h1
      cases lw with
      | false =>
        have hP2 : parseN s = ([], 5) := by rw [hP.out]; rfl
        go_wp2_with fail
        go_ret2
        rw [hP2]
        exact ⟨⟨_, rfl, OwnT.nil _ _ _⟩, hb⟩
      | true =>
        by_cases h2 : checkL ll = 0
        · have hP2 : parseN s = (ll, 0) := by rw [hP.out, if_neg (by simp), if_neg (by simp), if_neg (by simp [h2])]
          go_wp2_with fail
          refine (check_any hr'.out (by omega)).mono ?_
          rw [h2]
          rintro e w2 ⟨rfl, rfl⟩
          go_wp2_with fail
          go_ret2
          rw [hP2]
          exact ⟨⟨_, rfl, ho'.out⟩, hb⟩
        · have hP2 : parseN s = ([], checkL ll) := by rw [hP.out, if_neg (by simp), if_neg (by simp), if_pos h2]
          have h2' : ¬ ((checkL ll : Int) = 0) := by omega
          go_wp2_with fail
          refine (check_any hr'.out (by omega)).mono ?_
          rintro e w2 ⟨rfl, rfl⟩
          go_wp2_with fail
          go_ret2
          rw [hP2]
          exact ⟨⟨_, rfl, OwnT.nil _ _ _⟩, hb⟩
    · have hP2 : parseN s = ([], le) := by rw [hP.out, if_pos h1]
      have h1' : ¬ ((le : Int) = 0) := by omega
      go_wp2_with fail
      go_ret2
      rw [hP2]
      exact ⟨⟨_, rfl, OwnT.nil _ _ _⟩, hb⟩
set_option maxHeartbeats 4000000 in
set_option maxRecDepth 100000 in
theorem rparse_any {M : Nat} (hM : 63 ≤ M) (s : List UInt8) (w : World) (hs : s.length ≤ 1000000) :
    Calls Try.prog 96 #[.string (mk s)] w fun e w' => (∃ v, e = .returned (.tuple #[v, .int .i64 (parseN s).2]) ∧ OwnT M w' w.heap.size v (parseN s).1) ∧ Below w.heap.size w w' := by
  have hlen := labsL_len s
  by_cases h0 : s = [46]
  · subst h0
    have hP : parseN [46] = ([], 0) := rfl
    go_enter Try.func96, Try.ntmps96
    go_wp2_with fail
    go_ret2
    exact ⟨⟨_, rfl, OwnT.nil _ _ _⟩, Below.refl _ _⟩
  · have q0 := mk_ne h0
    obtain ⟨ll, lw, le, hR⟩ : ∃ a b c, labsL s = (a, b, c) := ⟨_, _, _, rfl⟩
    have hP : parseN s = if le ≠ 0 then ([], le) else if lw = false then ([], 5) else if checkL ll ≠ 0 then ([], checkL ll) else (ll, 0) := by
      unfold parseN; rw [if_neg h0, hR]
    rw [hR] at hlen
    simp only at hlen
    have hP := Lib.hid hP
    clear h0
    go_enter Try.func96, Try.ntmps96
    go_wp2_with fail
    refine (rlabels_any hM s w hs).mono ?_
    rw [hR]
    dsimp only
    rintro e w1 ⟨⟨v, rfl, ho⟩, hb⟩
    obtain ⟨a1, c1, hv, hr⟩ := ho.rd
    subst hv
    have ho' := Lib.hid ho
    have hr' := Lib.hid hr
    clear ho hr hR
    by_cases h1 : le = 0
    · subst h1
      cases lw with
      | false =>
        have hP2 : parseN s = ([], 5) := by rw [hP.out]; rfl
        go_wp2_with fail
        go_ret2
        rw [hP2]
        exact ⟨⟨_, rfl, OwnT.nil _ _ _⟩, hb⟩
      | true =>
        by_cases h2 : checkL ll = 0
        · have hP2 : parseN s = (ll, 0) := by rw [hP.out, if_neg (by simp), if_neg (by simp), if_neg (by simp [h2])]
          go_wp2_with fail
          refine (rcheck_any hr'.out (by omega)).mono ?_
          rw [h2]
          rintro e w2 ⟨rfl, rfl⟩
          go_wp2_with fail
          go_ret2
          rw [hP2]
          exact ⟨⟨_, rfl, ho'.out⟩, hb⟩
        · have hP2 : parseN s = ([], checkL ll) := by rw [hP.out, if_neg (by simp), if_neg (by simp), if_pos h2]
          have h2' : ¬ ((checkL ll : Int) = 0) := by omega
          go_wp2_with fail
          refine (rcheck_any hr'.out (by omega)).mono ?_
          rintro e w2 ⟨rfl, rfl⟩
          go_wp2_with fail
          go_ret2
          rw [hP2]
          exact ⟨⟨_, rfl, OwnT.nil _ _ _⟩, hb⟩
    · have hP2 : parseN s = ([], le) := by rw [hP.out, if_pos h1]
      have h1' : ¬ ((le : Int) = 0) := by omega
      go_wp2_with fail
      go_ret2
      rw [hP2]
      exact ⟨⟨_, rfl, OwnT.nil _ _ _⟩, hb⟩
set_option maxHeartbeats 4000000 in
set_option maxRecDepth 100000 in
theorem rel_any {M : Nat} (hM : 63 ≤ M) (s : List UInt8) {w : World} (hs : s.length ≤ 1000000) {a : Option Addr} {n c : Nat} {l : Nm} (h : Rd strE w a n c l) (hn : n ≤ 8796093022208) :
    Calls Try.prog 97 #[.string (mk s), .slice a n c] w fun e w' => (∃ v, e = .returned (.tuple #[v, .int .i64 (relN s l).2]) ∧ OwnT M w' w.heap.size v (relN s l).1) ∧ Below w.heap.size w w' := by
  have hH := Lib.hid h
  have hlen := labsL_len s
  clear h
  by_cases c1 : checkL l = 0
  · by_cases c2 : s = [64]
    · subst c2
      have hP : relN [64] l = (l, 0) := by unfold relN; rw [if_neg (fun h => h c1), if_pos rfl]
      go_enter Try.func97, Try.ntmps97
      go_wp2_with fail
      refine (check_any hH.out hn).mono ?_
      rw [c1]
      rintro e w1 ⟨rfl, rfl⟩
      go_wp2_with fail
      refine (copy_name (M := M) hH.out hn (fun s hs => Nat.le_trans (checkL_63 c1 s hs) hM)).mono ?_
      rintro e w1 ⟨⟨v, rfl, ho⟩, hb⟩
      go_wp2_with fail
      go_ret2
      rw [hP]
      exact ⟨⟨_, rfl, ho⟩, hb⟩
    · have q2 := mk_ne c2
      by_cases c3 : s = [46]
      · subst c3
        have hP : relN [46] l = ([], 0) := by unfold relN; rw [if_neg (fun h => h c1), if_neg c2, if_pos rfl]
        go_enter Try.func97, Try.ntmps97
        go_wp2_with fail
        refine (check_any hH.out hn).mono ?_
        rw [c1]
        rintro e w1 ⟨rfl, rfl⟩
        go_wp2_with fail
        go_ret2
        rw [hP]
        exact ⟨⟨_, rfl, OwnT.nil _ _ _⟩, Below.refl _ _⟩
      · have q3 := mk_ne c3
        obtain ⟨ll, lw, le, hR⟩ : ∃ a b c, labsL s = (a, b, c) := ⟨_, _, _, rfl⟩
        have hP : relN s l = if le ≠ 0 then ([], le) else if lw = true then parseN s else joinL ll l := by
          unfold relN; rw [if_neg (fun h => h c1), if_neg c2, if_neg c3, hR]
        rw [hR] at hlen
        simp only at hlen
        have hP := Lib.hid hP
        clear c2 c3
        go_enter Try.func97, Try.ntmps97
        go_wp2_with fail
        refine (check_any hH.out hn).mono ?_
        rw [c1]
        rintro e w1 ⟨rfl, rfl⟩
        go_wp2_with fail
        refine (labels_any hM s w hs).mono ?_
        rw [hR]
        dsimp only
        rintro e w1 ⟨⟨v, rfl, ho⟩, hb⟩
        obtain ⟨a1, c1', hv, hr⟩ := ho.rd
        subst hv
        have hr' := Lib.hid hr
        have hH1 := Lib.hid (hH.out.ext hb)
        clear ho hr hR
        by_cases h1 : le = 0
        · subst h1
          cases lw with
          | true =>
            have hP2 : relN s l = parseN s := by rw [hP.out]; rfl
            go_wp2_with fail
            refine (parse_any hM s _ hs).mono ?_
            rintro e w2 ⟨⟨v, rfl, ho⟩, hb2⟩
            go_wp2_with fail
            go_ret2
            rw [hP2]
            exact ⟨⟨_, rfl, ho.mono hb.size⟩, hb.trans (hb2.mono hb.size)⟩
          | false =>
            have hP2 : relN s l = joinL ll l := by rw [hP.out]; rfl
            go_wp2_with fail
            refine (join_any hM hr'.out hH1.out (by omega) hn).mono ?_
            rintro e w2 ⟨⟨v, rfl, ho⟩, hb2⟩
            go_wp2_with fail
            go_ret2
            rw [hP2]
            exact ⟨⟨_, rfl, ho.mono hb.size⟩, hb.trans (hb2.mono hb.size)⟩
        · have hP2 : relN s l = ([], le) := by rw [hP.out, if_pos h1]
          have h1' : ¬ ((le : Int) = 0) := by omega
          go_wp2_with fail
          go_ret2
          rw [hP2]
          exact ⟨⟨_, rfl, OwnT.nil _ _ _⟩, hb⟩
  · have hP : relN s l = ([], checkL l) := by unfold relN; rw [if_pos c1]
    have c1' : ¬ ((checkL l : Int) = 0) := by omega
    go_enter Try.func97, Try.ntmps97
    go_wp2_with fail
    refine (check_any hH.out hn).mono ?_
    rintro e w1 ⟨rfl, rfl⟩
    go_wp2_with fail
    go_ret2
    rw [hP]
    exact ⟨⟨_, rfl, OwnT.nil _ _ _⟩, Below.refl _ _⟩
set_option maxHeartbeats 4000000 in
set_option maxRecDepth 100000 in
theorem rrel_any {M : Nat} (hM : 63 ≤ M) (s : List UInt8) {w : World} (hs : s.length ≤ 1000000) {a : Option Addr} {n c : Nat} {l : Nm} (h : Rd strE w a n c l) (hn : n ≤ 8796093022208) :
    Calls Try.prog 98 #[.string (mk s), .slice a n c] w fun e w' => (∃ v, e = .returned (.tuple #[v, .int .i64 (relN s l).2]) ∧ OwnT M w' w.heap.size v (relN s l).1) ∧ Below w.heap.size w w' := by
  have hH := Lib.hid h
  have hlen := labsL_len s
  clear h
  by_cases c1 : checkL l = 0
  · by_cases c2 : s = [64]
    · subst c2
      have hP : relN [64] l = (l, 0) := by unfold relN; rw [if_neg (fun h => h c1), if_pos rfl]
      go_enter Try.func98, Try.ntmps98
      go_wp2_with fail
      refine (rcheck_any hH.out hn).mono ?_
      rw [c1]
      rintro e w1 ⟨rfl, rfl⟩
      go_wp2_with fail
      refine (rcopy (M := M) hH.out hn (fun s hs => Nat.le_trans (checkL_63 c1 s hs) hM)).mono ?_
      rintro e w1 ⟨⟨v, rfl, ho⟩, hb⟩
      go_wp2_with fail
      go_ret2
      rw [hP]
      exact ⟨⟨_, rfl, ho⟩, hb⟩
    · have q2 := mk_ne c2
      by_cases c3 : s = [46]
      · subst c3
        have hP : relN [46] l = ([], 0) := by unfold relN; rw [if_neg (fun h => h c1), if_neg c2, if_pos rfl]
        go_enter Try.func98, Try.ntmps98
        go_wp2_with fail
        refine (rcheck_any hH.out hn).mono ?_
        rw [c1]
        rintro e w1 ⟨rfl, rfl⟩
        go_wp2_with fail
        go_ret2
        rw [hP]
        exact ⟨⟨_, rfl, OwnT.nil _ _ _⟩, Below.refl _ _⟩
      · have q3 := mk_ne c3
        obtain ⟨ll, lw, le, hR⟩ : ∃ a b c, labsL s = (a, b, c) := ⟨_, _, _, rfl⟩
        have hP : relN s l = if le ≠ 0 then ([], le) else if lw = true then parseN s else joinL ll l := by
          unfold relN; rw [if_neg (fun h => h c1), if_neg c2, if_neg c3, hR]
        rw [hR] at hlen
        simp only at hlen
        have hP := Lib.hid hP
        clear c2 c3
        go_enter Try.func98, Try.ntmps98
        go_wp2_with fail
        refine (rcheck_any hH.out hn).mono ?_
        rw [c1]
        rintro e w1 ⟨rfl, rfl⟩
        go_wp2_with fail
        refine (rlabels_any hM s w hs).mono ?_
        rw [hR]
        dsimp only
        rintro e w1 ⟨⟨v, rfl, ho⟩, hb⟩
        obtain ⟨a1, c1', hv, hr⟩ := ho.rd
        subst hv
        have hr' := Lib.hid hr
        have hH1 := Lib.hid (hH.out.ext hb)
        clear ho hr hR
        by_cases h1 : le = 0
        · subst h1
          cases lw with
          | true =>
            have hP2 : relN s l = parseN s := by rw [hP.out]; rfl
            go_wp2_with fail
            refine (rparse_any hM s _ hs).mono ?_
            rintro e w2 ⟨⟨v, rfl, ho⟩, hb2⟩
            go_wp2_with fail
            go_ret2
            rw [hP2]
            exact ⟨⟨_, rfl, ho.mono hb.size⟩, hb.trans (hb2.mono hb.size)⟩
          | false =>
            have hP2 : relN s l = joinL ll l := by rw [hP.out]; rfl
            go_wp2_with fail
            refine (rjoin hM hr'.out hH1.out (by omega) hn).mono ?_
            rintro e w2 ⟨⟨v, rfl, ho⟩, hb2⟩
            go_wp2_with fail
            go_ret2
            rw [hP2]
            exact ⟨⟨_, rfl, ho.mono hb.size⟩, hb.trans (hb2.mono hb.size)⟩
        · have hP2 : relN s l = ([], le) := by rw [hP.out, if_pos h1]
          have h1' : ¬ ((le : Int) = 0) := by omega
          go_wp2_with fail
          go_ret2
          rw [hP2]
          exact ⟨⟨_, rfl, OwnT.nil _ _ _⟩, hb⟩
  · have hP : relN s l = ([], checkL l) := by unfold relN; rw [if_pos c1]
    have c1' : ¬ ((checkL l : Int) = 0) := by omega
    go_enter Try.func98, Try.ntmps98
    go_wp2_with fail
    refine (rcheck_any hH.out hn).mono ?_
    rintro e w1 ⟨rfl, rfl⟩
    go_wp2_with fail
    go_ret2
    rw [hP]
    exact ⟨⟨_, rfl, OwnT.nil _ _ _⟩, Below.refl _ _⟩
end Go.Proofs.Ytffdcfannnmjnaa
