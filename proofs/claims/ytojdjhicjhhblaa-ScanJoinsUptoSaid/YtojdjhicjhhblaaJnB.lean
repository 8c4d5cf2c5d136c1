/- The document's words 22, Join 8. -/
import Derived.Test.YtojdjhicjhhblaaJnA
namespace Go.Proofs.Ytojdjhicjhhblaa
open Go Go.RowKit
def badE (e : Ent) : Bool := e.words.isEmpty || e.words.any (fun w => !okw w)
def badL (L : List Ent) : Bool := L.any badE
def manyL (L : List Ent) : Bool := L.any (fun e => decide (64 < e.words.length))
def joinR (L : List Ent) : List UInt8 × Int := if badL L then ([], 230) else if manyL L then ([], 3) else (jtext L, 0)
structure Fits (L : List Ent) : Prop where
  n : L.length ≤ 16000
  ws : ∀ e ∈ L, e.words.length ≤ 16000
  txt : ∀ e ∈ L, ∀ w ∈ e.words, w.1.length ≤ 16000
  all : (jtext L).length ≤ 40000
theorem at_drop {α : Type} {L : List α} {k : Nat} {x : α} (h : L[k]? = some x) : L.drop k = x :: L.drop (k + 1) := by
  have hk : k < L.length := by
    rcases Nat.lt_or_ge k L.length with h2 | h2
    · exact h2
    · rw [List.getElem?_eq_none h2] at h; cases h
  rw [List.getElem?_eq_getElem hk] at h
  rw [List.drop_eq_getElem_cons hk, Option.some.inj h]
theorem at_take {α : Type} {L : List α} {k : Nat} {x : α} (h : L[k]? = some x) : L.take (k + 1) = L.take k ++ [x] := by
  have hk : k < L.length := by
    rcases Nat.lt_or_ge k L.length with h2 | h2
    · exact h2
    · rw [List.getElem?_eq_none h2] at h; cases h
  rw [List.getElem?_eq_getElem hk] at h
  rw [List.take_succ_eq_append_getElem hk, Option.some.inj h]
theorem at_ex {α : Type} {L : List α} {k : Nat} (hk : k < L.length) : ∃ x, L[k]? = some x ∧ x ∈ L := ⟨L[k], List.getElem?_eq_getElem hk, List.getElem_mem hk⟩
theorem badL_at {L : List Ent} {k : Nat} {e : Ent} (h : L[k]? = some e) : badL (L.drop k) = (badE e || badL (L.drop (k + 1))) := by rw [at_drop h]; rfl
theorem wtext_app (a : List Trm) (x : Trm) : wtext (a ++ [x]) = if a.isEmpty then shownL x else wtext a ++ 32 :: shownL x := by
  induction a with
  | nil => simp [wtext]
  | cons y r ih =>
    show shownL y ++ (if (r ++ [x]).isEmpty then [] else 32 :: wtext (r ++ [x])) = _
    have e : (r ++ [x]).isEmpty = false := by cases r <;> rfl
    rw [e, ih]
    cases r with
    | nil => simp [wtext]
    | cons z r => simp [wtext]
theorem jtext_app (a : List Ent) (e : Ent) : jtext (a ++ [e]) = jtext a ++ etext e := by
  induction a with
  | nil => simp [jtext]
  | cons y r ih => show etext y ++ jtext (r ++ [e]) = _; rw [ih]; simp [jtext]
theorem wtext_take_le (L : List Trm) (k : Nat) : (wtext (L.take k)).length ≤ (wtext L).length := by
  induction L generalizing k with
  | nil => simp
  | cons e r ih =>
    cases k with
    | zero => simp [wtext]
    | succ k =>
      have := ih k
      simp only [List.take_succ_cons, wtext, List.length_append]
      cases hr : r.take k with
      | nil => simp
      | cons z t =>
        have hne : r.isEmpty = false := by cases r with | nil => simp at hr | cons => rfl
        rw [hr] at this
        simp only [hne, List.isEmpty_cons, Bool.false_eq_true, if_false, List.length_cons]
        omega
theorem jtext_take_le (L : List Ent) (k : Nat) : (jtext (L.take k)).length ≤ (jtext L).length := by
  induction L generalizing k with
  | nil => simp
  | cons e r ih =>
    cases k with
    | zero => simp [jtext]
    | succ k => simp only [List.take_succ_cons, jtext, List.length_append]; have := ih k; omega
set_option maxHeartbeats 8000000 in
set_option maxRecDepth 100000 in
theorem rwords_any {w : World} {a : Option Addr} {n c : Nat} {L : List Ent} (h : RdEn w a n c L) (hF : Fits L) :
    Calls Try.prog 22 #[.slice a n c] w fun e w' => e = .returned (.int .i64 (if badL L then 230 else 0)) ∧ Below w.heap.size w w' := by
  have hL := h.len
  have hn := hF.n
  have hnI : (n : Int) ≤ 16000 := by omega
  have hH := Lib.hid h
  have hF1 := Lib.hid hF
  have hL1 := Lib.hid hL
  obtain ⟨bad, hbad⟩ : ∃ bad : Bool, badL L = bad := ⟨_, rfl⟩
  rw [hbad]
  have hB := Lib.hid hbad
  clear h hF hL hn hbad
  go_enter Try.func22, Try.ntmps22
  go_wp2_with fail
  go_loopw [3] (fun iv wr => ∃ i : Nat, iv = .int .i64 i ∧ i ≤ n ∧ Hid (Below w.heap.size w wr)) (fun iv _ => n - (intOf iv).toNat)
  case atStart => exact ⟨0, rfl, Nat.zero_le _, Lib.hid (Below.refl _ _)⟩
  case round =>
    obtain ⟨i, rfl, hin, hb⟩ := hrel
    by_cases hlt : i < n
    · have hltI : (i : Int) < n := by omega
      obtain ⟨en, hen, hmem⟩ := at_ex (L := L) (k := i) (by have := hL1.out; omega)
      have hE := Lib.hid hen
      have hM := Lib.hid hmem
      have hwlI : (en.words.length : Int) ≤ 16000 := by have := hF1.out.ws en hmem; omega
      clear hen hmem
      go_wp2_with fail
      go_loopw [4] (fun kv wr => ∃ k : Nat, kv = .int .i64 k ∧ k ≤ en.words.length ∧ Hid (Below w.heap.size w wr)) (fun kv _ => en.words.length - (intOf kv).toNat)
      case atStart => exact ⟨0, rfl, Nat.zero_le _, hb⟩
      case round =>
        clear hb
        obtain ⟨k, rfl, hkn, hb⟩ := hrel
        obtain ⟨ab, ao, wa, wn, wc, rfl, -, a0, a1, a2, hwd⟩ := (hH.out.ext hb.out).at_ hlt en hE.out
        have hwl := hwd.len
        replace hwd := Lib.hid hwd
        obtain rfl : wn = en.words.length := hwl.symm
        clear a0 a1 hwl
        by_cases hk : k < en.words.length
        · have hkI : (k : Int) < en.words.length := by omega
          obtain ⟨x, hx, hxm⟩ := at_ex hk
          obtain ⟨wb, wo, rfl, -, x0, x1⟩ := rd_tr hwd.out hk x hx
          obtain ⟨xt, xq⟩ := x
          have hxl : xt.length ≤ 16000 := hF1.out.txt en hM.out _ hxm
          have hsl : (shownL (xt, xq)).length ≤ 16002 := by cases xq <;> simp [shownL] <;> omega
          have hslI : ¬ (65536 : Int) < (shownL (xt, xq)).length := by omega
          dsimp only at x0 x1
          clear hwd hx hxm
          go_wp2_with fail
          refine (literal_any wr xt xq (by omega)).mono ?_
          rintro e w3 ⟨rfl, k3⟩
          have hb3 := Lib.hid (hb.out.trans (k3.mono hb.out.size))
          clear k3 x0 x1 a2
          go_wp2_with fail
          exact ⟨⟨k + 1, by push_cast; rfl, by omega, hb3⟩, by simp only [intOf]; omega⟩
        · obtain rfl : k = en.words.length := by omega
          clear hk hwd
          go_wp2_with fail
          exact ⟨⟨i + 1, by push_cast; rfl, by omega, hb⟩, by simp only [intOf]; omega⟩
    · obtain rfl : i = n := by omega
      clear hlt
      go_wp2_with fail
      go_loopw [5] (fun iv wr => ∃ j : Nat, iv = .int .i64 j ∧ j ≤ i ∧ Hid (badL (L.drop j) = bad) ∧ Hid (Below w.heap.size w wr)) (fun iv _ => i - (intOf iv).toNat)
      case atStart => exact ⟨0, rfl, Nat.zero_le _, Lib.hid (by rw [List.drop_zero]; exact hB.out), hb⟩
      case round =>
        clear hb
        obtain ⟨j, rfl, hjn, hD, hb⟩ := hrel
        by_cases hlt : j < i
        · have hltI : (j : Int) < i := by omega
          obtain ⟨en, hen, hmem⟩ := at_ex (L := L) (k := j) (by have := hL1.out; omega)
          have hE := Lib.hid hen
          have hM := Lib.hid hmem
          have hwlI : (en.words.length : Int) ≤ 16000 := by have := hF1.out.ws en hmem; omega
          have hD2 : Hid ((badE en || badL (L.drop (j + 1))) = bad) := Lib.hid ((badL_at hen).symm.trans hD.out)
          clear hen hmem hD
          obtain ⟨ab, ao, wa, wn, wc, rfl, -, a0, a1, a2, hwd⟩ := (hH.out.ext hb.out).at_ hlt en hE.out
          have hwl := hwd.len
          obtain rfl : wn = en.words.length := hwl.symm
          clear a0 a1 hwl hwd
          by_cases hz : en.words.length = 0
          · have hbt : bad = true := by
              have h := hD2.out
              have : badE en = true := by unfold badE; rw [List.isEmpty_iff.2 (List.eq_nil_of_length_eq_zero hz)]; rfl
              rw [this] at h
              exact h.symm
            subst hbt
            have hzI : ((en.words.length : Int) == 0) = true := by rw [beq_iff_eq]; omega
            clear hz hD2
            go_wp2_with fail
            go_ret
            exact ⟨rfl, hb.out⟩
          have hzI : ((en.words.length : Int) == 0) = false := by rw [beq_eq_false_iff_ne]; omega
          have hz1 : Hid (en.words.isEmpty = false) := Lib.hid (by cases hq : en.words with | nil => rw [hq] at hz; exact absurd rfl hz | cons => rfl)
          clear hz
          go_wp2_with fail
          clear a2
          go_loopw [6] (fun kv wr => ∃ k : Nat, kv = .int .i64 k ∧ k ≤ en.words.length ∧ Hid (((en.words.drop k).any (fun w => !okw w) || badL (L.drop (j + 1))) = bad) ∧ Hid (Below w.heap.size w wr)) (fun kv _ => en.words.length - (intOf kv).toNat)
          case atStart => exact ⟨0, rfl, Nat.zero_le _, Lib.hid (by rw [List.drop_zero]; have h := hD2.out; unfold badE at h; rw [hz1.out, Bool.false_or] at h; exact h), hb⟩
          case round =>
            clear hb
            obtain ⟨k, rfl, hkn, hD, hb⟩ := hrel
            obtain ⟨ab2, ao2, wa2, wn, wc2, e9, -, a0, a1, a2, hwd⟩ := (hH.out.ext hb.out).at_ hlt en hE.out
            cases e9
            have hwl := hwd.len
            replace hwd := Lib.hid hwd
            obtain rfl : wn = en.words.length := hwl.symm
            clear a0 a1 hwl
            by_cases hk : k < en.words.length
            · have hkI : (k : Int) < en.words.length := by omega
              obtain ⟨x, hx, hxm⟩ := at_ex hk
              obtain ⟨wb, wo, rfl, -, x0, x1⟩ := rd_tr hwd.out hk x hx
              obtain ⟨xt, xq⟩ := x
              have hxl : xt.length ≤ 16000 := hF1.out.txt en hM.out _ hxm
              have hD3 : Hid ((!okw (xt, xq) || ((en.words.drop (k + 1)).any (fun w => !okw w) || badL (L.drop (j + 1)))) = bad) := Lib.hid (by have h := hD.out; rw [at_drop hx, List.any_cons, Bool.or_assoc] at h; exact h)
              dsimp only at x0 x1
              clear hwd hx hxm hD hD2
              go_wp2_with fail
              refine (alone_any wr xt xq (by omega)).mono ?_
              rintro e w3 ⟨rfl, k3⟩
              have hb3 := Lib.hid (hb.out.trans (k3.mono hb.out.size))
              clear k3 x0 x1 a2
              cases hok : okw (xt, xq) with
              | false =>
                rw [hok] at hD3
                have hbt : bad = true := hD3.out.symm
                subst hbt
                clear hD3 hok
                go_wp2_with fail
                go_ret
                exact ⟨rfl, hb3.out⟩
              | true =>
                rw [hok, Bool.not_true, Bool.false_or] at hD3
                clear hok
                go_wp2_with fail
                exact ⟨⟨k + 1, by push_cast; rfl, by omega, hD3, hb3⟩, by simp only [intOf]; omega⟩
            · obtain rfl : k = en.words.length := by omega
              have hD3 : Hid (badL (L.drop (j + 1)) = bad) := Lib.hid (by have h := hD.out; rw [List.drop_length, List.any_nil, Bool.false_or] at h; exact h)
              clear hk hwd hD hD2
              go_wp2_with fail
              exact ⟨⟨j + 1, by push_cast; rfl, by omega, hD3, hb⟩, by simp only [intOf]; omega⟩
        · obtain rfl : j = i := by omega
          have hbf : bad = false := by
            have h := hD.out
            rw [List.drop_eq_nil_of_le (by have := hL1.out; omega)] at h
            exact h.symm
          subst hbf
          clear hlt hD
          go_wp2_with fail
          go_ret
          exact ⟨rfl, hb.out⟩
theorem mk_sp (a : List UInt8) : mk a ++ ⟨#[32]⟩ = mk (a ++ [32]) := mk_append a [32]
theorem mk_nl (a : List UInt8) : mk a ++ ⟨#[10]⟩ = mk (a ++ [10]) := mk_append a [10]
set_option maxHeartbeats 8000000 in
set_option maxRecDepth 100000 in
theorem rjoin_any {w : World} {a : Option Addr} {n c : Nat} {L : List Ent} (h : RdEn w a n c L) (hF : Fits L) :
    Calls Try.prog 8 #[.slice a n c] w fun e w' => e = .returned (.tuple #[.string (mk (joinR L).1), .int .i64 (joinR L).2]) ∧ Below w.heap.size w w' := by
  have hL := h.len
  have hn := hF.n
  have hnI : (n : Int) ≤ 16000 := by omega
  have hH := Lib.hid h
  have hF1 := Lib.hid hF
  have hL1 := Lib.hid hL
  have hcall := Lib.hid (rwords_any h hF)
  obtain ⟨JR, hJ⟩ : ∃ JR, joinR L = JR := ⟨_, rfl⟩
  rw [hJ]
  have hJ1 := Lib.hid hJ
  clear h hF hL hn hJ
  go_enter Try.func8, Try.ntmps8
  go_wp2_with fail
  refine hcall.out.mono ?_
  rintro e w1 ⟨rfl, k1⟩
  replace k1 := Lib.hid k1
  clear hcall
  cases hb : badL L with
  | true =>
    have hJ2 : Hid (JR = ([], 230)) := Lib.hid (by rw [← hJ1.out]; unfold joinR; rw [hb]; rfl)
    clear hb hJ1
    go_wp2_with fail
    go_ret2
    exact ⟨by rw [hJ2.out]; rfl, k1.out⟩
  | false =>
    obtain ⟨many, hm⟩ : ∃ many, manyL L = many := ⟨_, rfl⟩
    have hJ2 : Hid (JR = if many then ([], 3) else (jtext L, 0)) := Lib.hid (by rw [← hJ1.out, ← hm]; unfold joinR; rw [hb]; rfl)
    have hm1 := Lib.hid hm
    clear hb hJ1 hm
    go_wp2_with fail
    go_loopw [5, 6] (fun sv iv wr => ∃ i : Nat, sv = .string (mk (jtext (L.take i))) ∧ iv = .int .i64 i ∧ i ≤ n ∧ Hid (manyL (L.drop i) = many) ∧ Hid (Below w.heap.size w wr)) (fun _ iv _ => n - (intOf iv).toNat)
    case atStart => exact ⟨0, rfl, rfl, Nat.zero_le _, Lib.hid (by rw [List.drop_zero]; exact hm1.out), k1⟩
    case round =>
      clear k1
      obtain ⟨i, rfl, rfl, hin, hD, hb⟩ := hrel
      by_cases hlt : i < n
      · have hltI : (i : Int) < n := by omega
        obtain ⟨en, hen, hmem⟩ := at_ex (L := L) (k := i) (by have := hL1.out; omega)
        have hE := Lib.hid hen
        have hM := Lib.hid hmem
        have hwlI : (en.words.length : Int) ≤ 16000 := by have := hF1.out.ws en hmem; omega
        have hD2 : Hid ((decide (64 < en.words.length) || manyL (L.drop (i + 1))) = many) := Lib.hid (by have h := hD.out; rw [at_drop hen] at h; exact h)
        have hT : Hid (jtext (L.take (i + 1)) = jtext (L.take i) ++ etext en) := Lib.hid (by rw [at_take hen, jtext_app])
        have hTl : Hid ((jtext (L.take (i + 1))).length ≤ 40000) := Lib.hid (Nat.le_trans (jtext_take_le L (i + 1)) hF1.out.all)
        clear hen hmem hD
        obtain ⟨ab, ao, wa, wn, wc, rfl, -, a0, a1, a2, hwd⟩ := (hH.out.ext hb.out).at_ hlt en hE.out
        have hwl := hwd.len
        obtain rfl : wn = en.words.length := hwl.symm
        clear a0 hwl hwd
        by_cases hz : 64 < en.words.length
        · have hbt : many = true := by have h := hD2.out; rw [decide_eq_true hz, Bool.true_or] at h; exact h.symm
          subst hbt
          have hzI : (64 : Int) < en.words.length := by omega
          clear hz hD2
          go_wp2_with fail
          go_ret2
          exact ⟨by rw [hJ2.out]; rfl, hb.out⟩
        have hzI : ¬ (64 : Int) < en.words.length := by omega
        have hD3 : Hid (manyL (L.drop (i + 1)) = many) := Lib.hid (by have h := hD2.out; rw [decide_eq_false hz, Bool.false_or] at h; exact h)
        clear hz hD2
        obtain ⟨P, hP⟩ : ∃ P, jtext (L.take i) = P := ⟨_, rfl⟩
        rw [hP] at hT
        rw [hP]
        clear hP
        have hPl : (P.length : Int) ≤ 65536 := by have h := hTl.out; rw [hT.out, List.length_append] at h; omega
        cases hbl : en.blank with
        | false =>
          rw [hbl] at a1
          have hT2 : Hid (jtext (L.take (i + 1)) = (P ++ wtext en.words) ++ [10]) := Lib.hid (by rw [hT.out]; unfold etext ltext; rw [hbl]; simp)
          clear hbl hT
          go_wp2_with fail
          clear a1 a2
          go_loopw [5, 7] (fun sv kv wr => ∃ (k : Nat) (X : List UInt8), sv = .string (mk X) ∧ kv = .int .i64 k ∧ k ≤ en.words.length ∧ Hid (X = P ++ wtext (en.words.take k)) ∧ Hid (Below w.heap.size w wr)) (fun _ kv _ => en.words.length - (intOf kv).toNat)
          case atStart => exact ⟨0, P, rfl, rfl, Nat.zero_le _, Lib.hid (by simp [wtext]), hb⟩
          case round =>
            clear hb
            obtain ⟨k, X, rfl, rfl, hkn, hX, hb⟩ := hrel
            obtain ⟨ab2, ao2, wa2, wn, wc2, e9, -, a0, a1, a2, hwd⟩ := (hH.out.ext hb.out).at_ hlt en hE.out
            cases e9
            have hwl := hwd.len
            replace hwd := Lib.hid hwd
            obtain rfl : wn = en.words.length := hwl.symm
            clear a0 a1 hwl
            by_cases hk : k < en.words.length
            · have hkI : (k : Int) < en.words.length := by omega
              obtain ⟨x, hx, hxm⟩ := at_ex hk
              have hxw := Lib.hid (at_take hx)
              obtain ⟨wb, wo, rfl, -, x0, x1⟩ := rd_tr hwd.out hk x hx
              obtain ⟨xt, xq⟩ := x
              have hxl : xt.length ≤ 16000 := hF1.out.txt en hM.out _ hxm
              have hsl : ((shownL (xt, xq)).length : Int) ≤ 16002 := by cases xq <;> simp [shownL] <;> omega
              have hXl : (X.length : Int) ≤ 65536 := by
                have h := hTl.out
                have h2 := wtext_take_le en.words k
                rw [hT2.out] at h
                rw [hX.out]
                simp only [List.length_append, List.length_singleton] at h ⊢
                omega
              dsimp only at x0 x1
              clear hwd hx hxm
              by_cases hk0 : k = 0
              · have hkZ : (k : Int) ≤ 0 := by omega
                have hk1 : Hid (k = 0) := Lib.hid hk0
                clear hk0
                go_wp2_with fail
                refine (literal_any wr xt xq (by omega)).mono ?_
                rintro e w3 ⟨rfl, k3⟩
                have hb3 := Lib.hid (hb.out.trans (k3.mono hb.out.size))
                clear k3 x0 x1 a2
                go_wp2_with fail
                refine ⟨⟨k + 1, X ++ shownL (xt, xq), by rfl, by push_cast; rfl, by omega, Lib.hid ?_, hb3⟩, by simp only [intOf]; omega⟩
                rw [hX.out, hxw.out, wtext_app, hk1.out]
                simp [wtext]
              · have hkP : (0 : Int) < k := by omega
                have hk1 : Hid (¬ k = 0) := Lib.hid hk0
                clear hk0
                go_wp2_with fail
                refine (literal_any wr xt xq (by omega)).mono ?_
                rintro e w3 ⟨rfl, k3⟩
                have hb3 := Lib.hid (hb.out.trans (k3.mono hb.out.size))
                clear k3 x0 x1 a2
                go_wp2_with fail
                refine ⟨⟨k + 1, (X ++ [32]) ++ shownL (xt, xq), by rfl, by push_cast; rfl, by omega, Lib.hid ?_, hb3⟩, by simp only [intOf]; omega⟩
                have hne : (en.words.take k).isEmpty = false := by
                  rw [List.isEmpty_eq_false_iff]
                  intro h
                  have h1 := congrArg List.length h
                  rw [List.length_take] at h1
                  simp only [List.length_nil] at h1
                  have h2 := hk1.out
                  omega
                rw [hX.out, hxw.out, wtext_app, hne]
                simp
            · obtain rfl : k = en.words.length := by omega
              have hX2 : Hid (jtext (L.take (i + 1)) = X ++ [10]) := Lib.hid (by rw [hT2.out, hX.out, List.take_length])
              have hl : ¬ (65536 : Int) < ((X ++ [10]).length : Nat) := by have h := hTl.out; rw [hX2.out] at h; omega
              have hl2 : ¬ (65536 : Int) < (X.length : Int) + 1 := by have h := hTl.out; rw [hX2.out] at h; simp at h; omega
              clear hk hwd
              go_wp2_with fail
              refine ⟨⟨i + 1, by rw [hX2.out]; rfl, by push_cast; rfl, by omega, hD3, hb⟩, by simp only [intOf]; omega⟩
        | true =>
          rw [hbl] at a1
          have hT2 : Hid (jtext (L.take (i + 1)) = ((P ++ [32]) ++ wtext en.words) ++ [10]) := Lib.hid (by rw [hT.out]; unfold etext ltext; rw [hbl]; simp)
          clear hbl hT
          go_wp2_with fail
          clear a1 a2
          go_loopw [5, 7] (fun sv kv wr => ∃ (k : Nat) (X : List UInt8), sv = .string (mk X) ∧ kv = .int .i64 k ∧ k ≤ en.words.length ∧ Hid (X = (P ++ [32]) ++ wtext (en.words.take k)) ∧ Hid (Below w.heap.size w wr)) (fun _ kv _ => en.words.length - (intOf kv).toNat)
          case atStart => exact ⟨0, (P ++ [32]), rfl, rfl, Nat.zero_le _, Lib.hid (by simp [wtext]), hb⟩
          case round =>
            clear hb
            obtain ⟨k, X, rfl, rfl, hkn, hX, hb⟩ := hrel
            obtain ⟨ab2, ao2, wa2, wn, wc2, e9, -, a0, a1, a2, hwd⟩ := (hH.out.ext hb.out).at_ hlt en hE.out
            cases e9
            have hwl := hwd.len
            replace hwd := Lib.hid hwd
            obtain rfl : wn = en.words.length := hwl.symm
            clear a0 a1 hwl
            by_cases hk : k < en.words.length
            · have hkI : (k : Int) < en.words.length := by omega
              obtain ⟨x, hx, hxm⟩ := at_ex hk
              have hxw := Lib.hid (at_take hx)
              obtain ⟨wb, wo, rfl, -, x0, x1⟩ := rd_tr hwd.out hk x hx
              obtain ⟨xt, xq⟩ := x
              have hxl : xt.length ≤ 16000 := hF1.out.txt en hM.out _ hxm
              have hsl : ((shownL (xt, xq)).length : Int) ≤ 16002 := by cases xq <;> simp [shownL] <;> omega
              have hXl : (X.length : Int) ≤ 65536 := by
                have h := hTl.out
                have h2 := wtext_take_le en.words k
                rw [hT2.out] at h
                rw [hX.out]
                simp only [List.length_append, List.length_singleton] at h ⊢
                omega
              dsimp only at x0 x1
              clear hwd hx hxm
              by_cases hk0 : k = 0
              · have hkZ : (k : Int) ≤ 0 := by omega
                have hk1 : Hid (k = 0) := Lib.hid hk0
                clear hk0
                go_wp2_with fail
                refine (literal_any wr xt xq (by omega)).mono ?_
                rintro e w3 ⟨rfl, k3⟩
                have hb3 := Lib.hid (hb.out.trans (k3.mono hb.out.size))
                clear k3 x0 x1 a2
                go_wp2_with fail
                refine ⟨⟨k + 1, X ++ shownL (xt, xq), by rfl, by push_cast; rfl, by omega, Lib.hid ?_, hb3⟩, by simp only [intOf]; omega⟩
                rw [hX.out, hxw.out, wtext_app, hk1.out]
                simp [wtext]
              · have hkP : (0 : Int) < k := by omega
                have hk1 : Hid (¬ k = 0) := Lib.hid hk0
                clear hk0
                go_wp2_with fail
                refine (literal_any wr xt xq (by omega)).mono ?_
                rintro e w3 ⟨rfl, k3⟩
                have hb3 := Lib.hid (hb.out.trans (k3.mono hb.out.size))
                clear k3 x0 x1 a2
                go_wp2_with fail
                refine ⟨⟨k + 1, (X ++ [32]) ++ shownL (xt, xq), by rfl, by push_cast; rfl, by omega, Lib.hid ?_, hb3⟩, by simp only [intOf]; omega⟩
                have hne : (en.words.take k).isEmpty = false := by
                  rw [List.isEmpty_eq_false_iff]
                  intro h
                  have h1 := congrArg List.length h
                  rw [List.length_take] at h1
                  simp only [List.length_nil] at h1
                  have h2 := hk1.out
                  omega
                rw [hX.out, hxw.out, wtext_app, hne]
                simp
            · obtain rfl : k = en.words.length := by omega
              have hX2 : Hid (jtext (L.take (i + 1)) = X ++ [10]) := Lib.hid (by rw [hT2.out, hX.out, List.take_length])
              have hl : ¬ (65536 : Int) < ((X ++ [10]).length : Nat) := by have h := hTl.out; rw [hX2.out] at h; omega
              have hl2 : ¬ (65536 : Int) < (X.length : Int) + 1 := by have h := hTl.out; rw [hX2.out] at h; simp at h; omega
              clear hk hwd
              go_wp2_with fail
              refine ⟨⟨i + 1, by rw [hX2.out]; rfl, by push_cast; rfl, by omega, hD3, hb⟩, by simp only [intOf]; omega⟩
      · obtain rfl : i = n := by omega
        have hbf : many = false := by
          have h := hD.out
          rw [List.drop_eq_nil_of_le (by have := hL1.out; omega)] at h
          exact h.symm
        subst hbf
        have hPL : Hid (jtext (L.take i) = jtext L) := Lib.hid (by rw [List.take_of_length_le (by have := hL1.out; omega)])
        clear hlt hD
        go_wp2_with fail
        go_ret2
        exact ⟨by rw [hJ2.out]; show _ = Ending.returned (.tuple #[.string (mk (jtext L)), _]); rw [← hPL.out]; rfl, hb.out⟩
end Go.Proofs.Ytojdjhicjhhblaa
