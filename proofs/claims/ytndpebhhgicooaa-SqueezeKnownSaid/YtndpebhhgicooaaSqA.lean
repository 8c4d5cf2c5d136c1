/- Names: sizes, checks, sameness, texts that are written over (turned from the seat of the names). -/
import Derived.Test.YtndpebhhgicooaaCut
import Derived.Test.YtndpebhhgicooaaTypes
import Derived.Deep.SlicePairs
import Derived.Deep.RegionWith
import Derived.Deep.QuietTactic
import Derived.BigQuiet
import Derived.Deep.RegionHeld3
namespace Go.Proofs.Ytndpebhhgicooaa
open Go Go.RowKit
abbrev Nm := List (List UInt8)
theorem check_yes (l : List UInt8) (w : World) (h : 1 ≤ l.length ∧ l.length ≤ 63) : Calls Try.prog 40 #[.string (mk l)] w fun e w' => e = .returned (.int .i64 0) ∧ w = w' := by
  obtain ⟨h1, h2⟩ := h
  go_enter Try.func40, Try.ntmps40
  go_wp2
  go_ret
  exact ⟨rfl, rfl⟩
theorem check_no (l : List UInt8) (w : World) (h : l.length < 1 ∨ 63 < l.length) : Calls Try.prog 40 #[.string (mk l)] w fun e w' => e = .returned (.int .i64 4) ∧ w = w' := by
  rcases h with h | h
  · go_enter Try.func40, Try.ntmps40
    go_wp2
    go_ret
    exact ⟨rfl, rfl⟩
  · go_enter Try.func40, Try.ntmps40
    go_wp2
    go_ret
    exact ⟨rfl, rfl⟩
def Sb (M : Nat) : Type := {s : List UInt8 // s.length ≤ M}
def strB (M : Nat) : Enc (Sb M) := ⟨9, 1, fun s => [.string (mk s.1)], ⟨[], Nat.zero_le _⟩, fun _ => rfl, fun x v hv => by simp at hv; subst hv; rfl, by decide⟩
def nmOf {M : Nat} (l : List (Sb M)) : Nm := l.map fun s => s.1
theorem rowOf_strB {M : Nat} (l : List (Sb M)) : rowOf (strB M) l = rowOf strE (nmOf l) := by
  induction l with
  | nil => rfl
  | cons c r ih => simp only [rowOf, List.flatMap_cons, nmOf, List.map_cons] at ih ⊢; rw [ih]; rfl
theorem nm_lift {M : Nat} : ∀ (l : Nm), (∀ s ∈ l, s.length ≤ M) → ∃ l' : List (Sb M), l = nmOf l'
  | [], _ => ⟨[], rfl⟩
  | s :: r, h => by
    obtain ⟨r', hr⟩ := nm_lift r fun x hx => h x (List.mem_cons_of_mem _ hx)
    exact ⟨⟨s, h s List.mem_cons_self⟩ :: r', congrArg (s :: ·) hr⟩
theorem nmOf_le {M : Nat} (l : List (Sb M)) : ∀ s ∈ nmOf l, s.length ≤ M := by
  intro s hs
  obtain ⟨x, _, rfl⟩ := List.mem_map.1 hs
  exact x.2
/-- a slice of texts of the call's own; the room behind holds short texts too -/
def OwnT (M : Nat) (w : World) (base : Nat) (v : Value) (l : Nm) : Prop := ∃ l' : List (Sb M), l = nmOf l' ∧ Own (strB M) w base v l'
theorem OwnT.own {M : Nat} {w : World} {base : Nat} {v : Value} {l : Nm} (h : OwnT M w base v l) : Own strE w base v l := by
  obtain ⟨l', rfl, h⟩ := h
  rcases h with ⟨rfl, rfl⟩ | ⟨g, cap, X, rfl, hg, hB, hX, hle, hm, ht⟩
  · exact .inl ⟨rfl, rfl⟩
  · refine .inr ⟨g, cap, nmOf X, by simp [nmOf], hg, by rw [← rowOf_strB]; exact hB, by simpa [nmOf] using hX, by simpa [nmOf] using hle, hm, ?_⟩
    have : (nmOf X).take l'.length = nmOf (X.take l'.length) := by simp [nmOf, List.map_take]
    have e : (nmOf l').length = l'.length := by simp [nmOf]
    rw [e, this, ht]
theorem OwnT.le {M : Nat} {w : World} {base : Nat} {v : Value} {l : Nm} (h : OwnT M w base v l) : ∀ s ∈ l, s.length ≤ M := by
  obtain ⟨l', rfl, _⟩ := h; exact nmOf_le l'
theorem OwnT.ext {M : Nat} {w w' : World} {base : Nat} {v : Value} {l : Nm} (h : OwnT M w base v l) (hb : Below w.heap.size w w') : OwnT M w' base v l := by
  obtain ⟨l', e, h⟩ := h; exact ⟨l', e, h.ext hb⟩
theorem OwnT.mono {M : Nat} {w : World} {base base' : Nat} {v : Value} {l : Nm} (h : OwnT M w base v l) (hb : base' ≤ base) : OwnT M w base' v l := by
  obtain ⟨l', e, h⟩ := h; exact ⟨l', e, h.mono hb⟩
theorem OwnT.nil (M : Nat) (w : World) (base : Nat) : OwnT M w base (.slice none 0 0) [] := ⟨[], rfl, Own.nil _ _ _⟩
theorem OwnT.lt {M : Nat} {w : World} {base : Nat} {v : Value} {l : Nm} (h : OwnT M w base v l) : ∀ k, v.ownBlock = some k → base ≤ k ∧ k < w.heap.size := by
  obtain ⟨l', e, h⟩ := h; exact h.lt
theorem OwnT.shape {M : Nat} {w : World} {base : Nat} {v : Value} {l : Nm} (h : OwnT M w base v l) : ∃ a cap, v = .slice a l.length cap := h.own.shape
theorem OwnT.rd {M : Nat} {w : World} {base : Nat} {v : Value} {l : Nm} (h : OwnT M w base v l) : ∃ a c, v = .slice a l.length c ∧ Rd strE w a l.length c l := h.own.rd
theorem OwnT.made (M : Nat) (w : World) (C : Array Value) (l : Nm) (n : Nat) (hC : C.toList = rowOf strE l) (hn : n = l.length) (hm : n ≤ maxLen) (hM : ∀ s ∈ l, s.length ≤ M) : OwnT M (w.alloc (.cells C 9)) w.heap.size (.slice (some ⟨w.heap.size, 0, none⟩) n n) l := by
  obtain ⟨l', rfl⟩ := nm_lift l hM
  exact ⟨l', rfl, Own.made (strB M) w C l' n (by rw [rowOf_strB]; exact hC) (by rw [hn]; simp [nmOf]) hm⟩
/-- append onto a slice of texts of the call's own, for the walk -/
theorem app_ownT {M : Nat} {ops : Array Oper} {rest : List Oper} {o : Oper} {a : Act} {Q : Exit → Act → World → Prop} {W : World} (hgd : o.guard = none) (s x : Operand) (t tx : TypeId)
    (ho : o.op = .call { callee := .builtin .append, args := #[s, x], argTypes := #[t, tx] }) (ht : Try.prog.underlying t = some (.slice 9)) (htx : Try.prog.underlying tx = some (.slice 9)) {base : Nat} {v : Value} {ax : Option Addr} {nx cx : Nat} {l news : Nm} (hs : a.eval s = v) (hown : OwnT M W base v l) (hx : a.eval x = .slice ax nx cx) (hsrc : Rd strE W ax nx cx news)
    (hM : ∀ s ∈ news, s.length ≤ M) (hbytes : l.length + news.length ≤ 8796093022208) (hbase : base ≤ W.heap.size)
    (h : ∀ v' w', OwnT M w' base v' (l ++ news) → W.grownBy w' v.ownBlock → (v'.ownBlock = v.ownBlock ∨ v'.ownBlock = some W.heap.size) → wpList Try.prog ops Q rest (a.put o.dst v') w') : wpList Try.prog ops Q (o :: rest) a W := by
  obtain ⟨i0, hi, hz0, hz1, hz2⟩ := info_parts Try.info9
  obtain ⟨l', rfl, hown⟩ := hown
  obtain ⟨news', rfl⟩ := nm_lift news hM
  have h1 := hsrc.src (P := Try.prog) htx
  have e1 : (nmOf news').length = news'.length := by simp [nmOf]
  have e2 : (nmOf l').length = l'.length := by simp [nmOf]
  rw [e1, ← rowOf_strB] at h1
  rw [e1, e2] at hbytes
  refine app_own (E := strB M) hgd s x t tx ho ht hi hz0 hz1 hz2 rfl hs hown hx h1 (by simp [maxLen]; omega) (by omega) hbase ?_
  intro v' w' h2 h3 h4
  exact h v' w' ⟨l' ++ news', by simp [nmOf], h2⟩ h3 h4
def sizeL (l : Nm) : Nat := (l.map fun s => s.length + 1).sum + 1
theorem sizeL_take (l : Nm) (k : Nat) (h : k < l.length) : sizeL (l.take (k + 1)) = sizeL (l.take k) + (l[k].length + 1) := by
  unfold sizeL
  rw [List.take_succ_eq_append_getElem h, List.map_append, List.sum_append]
  simp; omega
theorem sizeL_le (l : Nm) (k : Nat) : sizeL (l.take k) ≤ sizeL l := by
  unfold sizeL
  have := congrArg (fun l : Nm => (l.map fun s => s.length + 1).sum) (List.take_append_drop k l)
  simp only [List.map_append, List.sum_append] at this
  omega
theorem sizeL_bound (M : Nat) : ∀ (l : Nm), (∀ s ∈ l, s.length ≤ M) → sizeL l ≤ l.length * (M + 1) + 1
  | [], _ => by simp [sizeL]
  | s :: r, h => by
    have h1 := sizeL_bound M r fun x hx => h x (List.mem_cons_of_mem _ hx)
    have h2 := h s List.mem_cons_self
    simp only [sizeL, List.map_cons, List.sum_cons, List.length_cons, Nat.add_mul, Nat.one_mul] at h1 ⊢
    omega
set_option maxHeartbeats 1000000 in
set_option maxRecDepth 100000 in
theorem size_any {w : World} {a : Option Addr} {n c : Nat} {l : Nm} (h : Rd strE w a n c l) (hs : sizeL l ≤ 1152921504606846976) :
    Calls Try.prog 24 #[.slice a n c] w fun e w' => e = .returned (.int .i64 (sizeL l)) ∧ w = w' := by
  have hl := h.len
  subst hl
  have hm := h.most
  have hc := h.cap
  have hH := Lib.hid h
  clear h
  simp only [maxLen] at hm
  go_enter Try.func24, Try.ntmps24
  go_wp2_with fail
  go_loopw [3, 8] (fun s i wr => ∃ k : Nat, k ≤ l.length ∧ i = .int .i64 k ∧ s = .int .i64 (sizeL (l.take k)) ∧ w = wr)
    (fun _ i _ => l.length - (intOf i).toNat)
  case atStart => exact ⟨0, Nat.zero_le _, rfl, rfl, rfl⟩
  case round =>
    obtain ⟨k, hk, rfl, rfl, rfl⟩ := hrel
    by_cases hlt : k < l.length
    · obtain ⟨b, o, rfl, hcs⟩ := rd_str hH.out (by omega)
      have hck := hcs k hlt
      clear hcs
      have e1 := sizeL_take l k hlt
      have e2 := sizeL_le l (k + 1)
      generalize hX : l[k] = X at *
      generalize sizeL (l.take k) = S at *
      have hS : S + (X.length + 1) ≤ 1152921504606846976 := by omega
      have e1' := Lib.hid e1
      clear e1 e2
      go_wp2_with fail
      go_roundw
      case rel => exact ⟨k + 1, by omega, by go_num, by rw [e1'.out]; simp, trivial⟩
      case measure => simp [intOf]; omega
    · have hk' : k = l.length := by omega
      subst hk'
      rw [List.take_length]
      go_wp2_with fail
      go_ret
      exact ⟨rfl, rfl⟩
def okLab (s : List UInt8) : Prop := 1 ≤ s.length ∧ s.length ≤ 63
instance (s : List UInt8) : Decidable (okLab s) := by unfold okLab; infer_instance
def checkL (l : Nm) : Nat := if ∀ s ∈ l, okLab s then (if 255 < sizeL l then 5 else 0) else 4
set_option maxHeartbeats 1000000 in
set_option maxRecDepth 100000 in
theorem check_any {w : World} {a : Option Addr} {n c : Nat} {l : Nm} (h : Rd strE w a n c l) (hn : n ≤ 8796093022208) :
    Calls Try.prog 23 #[.slice a n c] w fun e w' => e = .returned (.int .i64 (checkL l)) ∧ w = w' := by
  have hl := h.len
  subst hl
  have hm := h.most
  have hc := h.cap
  have hH := Lib.hid h
  clear h
  simp only [maxLen] at hm
  go_enter Try.func23, Try.ntmps23
  go_wp2_with fail
  go_loopw [8] (fun i wr => ∃ k : Nat, k ≤ l.length ∧ i = .int .i64 k ∧ (∀ j (hj : j < l.length), j < k → okLab l[j]) ∧ w = wr)
    (fun i _ => l.length - (intOf i).toNat)
  case atStart => exact ⟨0, Nat.zero_le _, rfl, fun j _ h => (by omega), rfl⟩
  case round =>
    obtain ⟨k, hk, rfl, hp0, rfl⟩ := hrel
    have hp := Lib.hid hp0
    clear hp0
    by_cases hlt : k < l.length
    · obtain ⟨b, o, rfl, hcs⟩ := rd_str hH.out (by omega)
      have hck := hcs k hlt
      clear hcs
      generalize hX : l[k] = X at *
      by_cases h3 : okLab X
      · go_wp2_with fail
        refine (check_yes X _ h3).mono ?_
        rintro e w1 ⟨rfl, rfl⟩
        go_wp2_with fail
        go_roundw
        case rel => exact ⟨k + 1, by omega, by go_num, fun j hj h => (by
          by_cases e : j = k
          · subst e; rw [hX]; exact h3
          · exact hp.out j hj (by omega)), trivial⟩
        case measure => simp [intOf]; omega
      · go_wp2_with fail
        refine (check_no X _ (by unfold okLab at h3; omega)).mono ?_
        rintro e w1 ⟨rfl, rfl⟩
        go_wp2_with fail
        go_ret
        refine ⟨?_, rfl⟩
        have : checkL l = 4 := by
          unfold checkL; rw [if_neg]; intro h; exact h3 (hX ▸ h _ (List.getElem_mem hlt))
        rw [this]; rfl
    · have hk' : k = l.length := by omega
      subst hk'
      have hall : ∀ s ∈ l, okLab s := fun s hs => by
        obtain ⟨j, hj, rfl⟩ := List.getElem_of_mem hs
        exact hp.out j hj hj
      have hC : checkL l = if 255 < sizeL l then 5 else 0 := by unfold checkL; rw [if_pos hall]
      have hsz : sizeL l ≤ 1152921504606846976 := by
        have := sizeL_bound 63 l fun s hs => (hall s hs).2
        omega
      have hC' := Lib.hid hC
      clear hC hall
      go_wp2_with fail
      refine (size_any hH.out hsz).mono ?_
      rintro e w1 ⟨rfl, rfl⟩
      by_cases h5 : 255 < sizeL l
      · go_wp2_with fail
        go_ret
        exact ⟨by rw [hC'.out, if_pos h5]; rfl, rfl⟩
      · go_wp2_with fail
        go_ret
        exact ⟨by rw [hC'.out, if_neg h5]; rfl, rfl⟩
theorem hsz9 : (Try.prog.info? strE.e).map (·.size) = some strE.k := by kernel_rfl
theorem checkL_zero {l : Nm} (h : checkL l = 0) : (∀ s ∈ l, okLab s) ∧ sizeL l ≤ 255 := by
  unfold checkL at h
  by_cases h1 : ∀ s ∈ l, okLab s
  · rw [if_pos h1] at h
    refine ⟨h1, ?_⟩
    by_cases h2 : 255 < sizeL l
    · rw [if_pos h2] at h; cases h
    · omega
  · rw [if_neg h1] at h; cases h
theorem sizeL_ge (l : Nm) : l.length + 1 ≤ sizeL l := by
  induction l with
  | nil => simp [sizeL]
  | cons s r ih => simp only [sizeL, List.map_cons, List.sum_cons, List.length_cons] at ih ⊢; omega
theorem checkL_len {l : Nm} (h : checkL l = 0) : l.length ≤ 254 := by
  have h1 := (checkL_zero h).2
  have h2 := sizeL_ge l
  omega
theorem checkL_63 {l : Nm} (h : checkL l = 0) : ∀ s ∈ l, s.length ≤ 63 := fun s hs => ((checkL_zero h).1 s hs).2
set_option maxHeartbeats 1000000 in
set_option maxRecDepth 100000 in
theorem same_texts {w : World} {a a' : Option Addr} {n c n' c' : Nat} {l l' : Nm} (h : Rd strE w a n c l) (h' : Rd strE w a' n' c' l') :
    Calls Try.prog 32 #[.slice a n c, .slice a' n' c'] w fun e w' => e = .returned (.bool (l == l')) ∧ Below w.heap.size w w' := by
  have hl := h.len
  have hl' := h'.len
  have hm := h.most
  have hc := h.cap
  have hm' := h'.most
  have hc' := h'.cap
  have hH := Lib.hid h
  have hH' := Lib.hid h'
  have hL := Lib.hid (And.intro hl hl')
  clear h h' hl hl'
  simp only [maxLen] at hm hm'
  by_cases e : n = n'
  · subst e
    go_enter Try.func32, Try.ntmps32
    go_wp2_with fail
    go_loopw [5] (fun i wr => ∃ k : Nat, k ≤ n ∧ i = .int .i64 k ∧ l.take k = l'.take k ∧ Below w.heap.size w wr)
      (fun i _ => n - (intOf i).toNat)
    case atStart => exact ⟨0, Nat.zero_le _, rfl, rfl, Below.refl _ _⟩
    case round =>
      obtain ⟨k, hk, rfl, hp0, hb⟩ := hrel
      have hp := Lib.hid hp0
      clear hp0
      have ⟨hl, hl'⟩ := hL.out
      by_cases hlt : k < n
      · have hr1 := hH.out.ext hb
        have hr2 := hH'.out.ext hb
        obtain ⟨b, o, rfl, hcs⟩ := rd_str hr1 (by omega)
        obtain ⟨b', o', rfl, hcs'⟩ := rd_str hr2 (by omega)
        have hck := hcs k (by omega)
        have hck' := hcs' k (by omega)
        have e1 : l.take (k + 1) = l.take k ++ [l[k]'(by omega)] := List.take_succ_eq_append_getElem (by omega)
        have e2 : l'.take (k + 1) = l'.take k ++ [l'[k]'(by omega)] := List.take_succ_eq_append_getElem (by omega)
        have e3 : (l[k]'(by omega)) ≠ (l'[k]'(by omega)) → (l == l') = false := fun h => by
          rw [beq_eq_false_iff_ne]; intro e; subst e; exact h rfl
        clear hcs hcs' hr1 hr2
        generalize (l[k]'(by omega)) = X at *
        generalize (l'[k]'(by omega)) = Y at *
        clear hl hl'
        have e4 := Lib.hid (And.intro e1 e2)
        clear e1 e2
        have hlt2 : (k : Int) < n := by omega
        by_cases hxy : X = Y
        · subst hxy
          go_wp2_with fail
          go_region
          go_wp2_with fail
          go_roundw
          case rel => exact ⟨k + 1, by omega, by go_num, by rw [e4.out.1, e4.out.2, hp.out], hb.drew⟩
          case measure => simp [intOf]; omega
        · have hne : (X == Y) = false := by rw [beq_eq_false_iff_ne]; exact hxy
          have hres := e3 hxy
          go_wp2_with fail
          go_region
          go_wp2_with fail
          go_ret
          exact ⟨by rw [hres]; rfl, hb.drew⟩
      · have hk' : k = n := by omega
        subst hk'
        have hres : (l == l') = true := by
          have := hp.out
          rw [List.take_of_length_le (by omega), List.take_of_length_le (by omega)] at this
          rw [this]; exact beq_self_eq_true _
        clear hl hl'
        go_wp2_with fail
        go_ret
        exact ⟨by rw [hres]; rfl, hb⟩
  · have e2 : ¬ ((n : Int) = (n' : Int)) := by omega
    have hres : (l == l') = false := by
      have := hL.out
      rw [beq_eq_false_iff_ne]; intro e; subst e; omega
    go_enter Try.func32, Try.ntmps32
    go_wp2_with fail
    go_ret
    exact ⟨by rw [hres]; rfl, Below.refl _ _⟩
theorem same_name {w : World} {a a' : Option Addr} {n c n' c' : Nat} {l l' : Nm} (h : Rd strE w a n c l) (h' : Rd strE w a' n' c' l') :
    Calls Try.prog 12 #[.slice a n c, .slice a' n' c'] w fun e w' => e = .returned (.bool (l == l')) ∧ Below w.heap.size w w' := by
  have hH := Lib.hid h
  have hH' := Lib.hid h'
  clear h h'
  go_enter Try.func12, Try.ntmps12
  go_wp2_with fail
  refine (same_texts hH.out hH'.out).mono ?_
  rintro e w1 ⟨rfl, hb⟩
  go_wp2_with fail
  go_ret
  exact ⟨rfl, hb⟩
set_option maxHeartbeats 1000000 in
set_option maxRecDepth 100000 in
theorem rsize_any {w : World} {a : Option Addr} {n c : Nat} {l : Nm} (h : Rd strE w a n c l) (hs : sizeL l ≤ 1152921504606846976) :
    Calls Try.prog 31 #[.slice a n c] w fun e w' => e = .returned (.int .i64 (sizeL l)) ∧ w = w' := by
  have hl := h.len
  subst hl
  have hm := h.most
  have hc := h.cap
  have hH := Lib.hid h
  clear h
  simp only [maxLen] at hm
  go_enter Try.func31, Try.ntmps31
  go_wp2_with fail
  go_loopw [3, 4] (fun s i wr => ∃ k : Nat, k ≤ l.length ∧ i = .int .i64 k ∧ s = .int .i64 (sizeL (l.take k)) ∧ w = wr)
    (fun _ i _ => l.length - (intOf i).toNat)
  case atStart => exact ⟨0, Nat.zero_le _, rfl, rfl, rfl⟩
  case round =>
    obtain ⟨k, hk, rfl, rfl, rfl⟩ := hrel
    by_cases hlt : k < l.length
    · obtain ⟨b, o, rfl, hcs⟩ := rd_str hH.out (by omega)
      have hck := hcs k hlt
      clear hcs
      have e1 := sizeL_take l k hlt
      have e2 := sizeL_le l (k + 1)
      generalize hX : l[k] = X at *
      generalize sizeL (l.take k) = S at *
      have hS : S + (X.length + 1) ≤ 1152921504606846976 := by omega
      have e1' := Lib.hid e1
      clear e1 e2
      go_wp2_with fail
      go_roundw
      case rel => exact ⟨k + 1, by omega, by go_num, by rw [e1'.out]; simp; omega, trivial⟩
      case measure => simp [intOf]; omega
    · have hk' : k = l.length := by omega
      subst hk'
      rw [List.take_length]
      go_wp2_with fail
      go_ret
      exact ⟨rfl, rfl⟩
theorem lit_rd (w : World) (s : List UInt8) : Rd strE (w.alloc (.cells #[.string (mk s)] 9)) (some ⟨w.heap.size, 0, none⟩) 1 1 [s] := by
  refine ⟨rfl, Nat.le_refl _, by decide, fun j hj i hi => ⟨w.heap.size, 0, rfl, ?_⟩⟩
  have h1 : j = 0 := by simp at hj; exact hj
  have h2 : i = 0 := by have : strE.k = 1 := rfl; omega
  subst h1 h2
  rw [World.cell?_alloc_mark]; rfl
def sv (s : List UInt8) : Value := .string (mk s)
theorem rowOf_str (l : Nm) : rowOf strE l = l.map sv := by
  induction l with
  | nil => rfl
  | cons c r ih => simp only [rowOf, List.flatMap_cons] at ih ⊢; rw [ih]; rfl
def OvT (B : Nat) (w : World) (base : Nat) (v : Value) : Prop :=
  v = .slice none 0 0 ∨ ∃ g n cap, ∃ X : List (Sb B), v = .slice (some ⟨g, 0, none⟩) n cap ∧ base ≤ g ∧ Blk w g 9 (0, 0) (rowOf (strB B) X) ∧ X.length = cap ∧ n ≤ cap ∧ cap ≤ maxLen
theorem OwnT.ov {M : Nat} {w : World} {base : Nat} {v : Value} {l : Nm} (h : OwnT M w base v l) : OvT M w base v := by
  obtain ⟨l', _, h⟩ := h
  rcases h with ⟨rfl, _⟩ | ⟨g, cap, X, rfl, hg, hB, hX, hle, hm, _⟩
  · exact .inl rfl
  · exact .inr ⟨g, _, cap, X, rfl, hg, hB, hX, hle, hm⟩
def Sb.more {B : Nat} (s : Sb B) : Sb (B + 1) := ⟨s.1, Nat.le_succ_of_le s.2⟩
def Sb.bang {B : Nat} (s : Sb B) : Sb (B + 1) := ⟨s.1 ++ [33], by have := s.2; simp; omega⟩
theorem row_more {B : Nat} (X : List (Sb B)) : rowOf (strB (B + 1)) (X.map Sb.more) = rowOf (strB B) X := by
  induction X with
  | nil => rfl
  | cons c r ih => simp only [rowOf, List.flatMap_cons, List.map_cons] at ih ⊢; rw [ih]; rfl
theorem OvT.keep {B : Nat} {w w' : World} {base : Nat} {v : Value} (h : OvT B w base v) (hb : Below w.heap.size w w') : OvT B w' base v := by
  rcases h with h | ⟨g, n, cap, X, h1, h2, h3, r⟩
  · exact .inl h
  · exact .inr ⟨g, n, cap, X, h1, h2, h3.below hb h3.lt, r⟩
set_option maxHeartbeats 2000000 in
set_option maxRecDepth 100000 in
/-- all texts are written over, in the room too -/
theorem over_texts {B : Nat} (hM : B ≤ 1099511627776) {w : World} {base : Nat} {v : Value} (h : OvT B w base v) :
    Calls Try.prog 14 #[v] w fun e w' => e = .returned (.tuple #[]) ∧ (∀ u, OvT B w base u → OvT (B + 1) w' base u) ∧ w.grownBy w' v.ownBlock ∧ (∀ k, v.ownBlock = some k → base ≤ k ∧ ∃ C, Blk w k 9 (0, 0) C) := by
  rcases h with rfl | ⟨g, n, c, X, rfl, hg, hB, hX, hle, hm⟩
  · go_enter Try.func14, Try.ntmps14
    go_wp2_with fail
    refine wp_loop_rounds 1 ?_
    rw [rounds_succ]
    go_wp2_with fail
    go_end0
    refine ⟨rfl, fun u hu => ?_, ⟨rfl, rfl, rfl, Nat.le_refl _, fun _ _ _ => rfl⟩, fun k hk => by simp [Value.ownBlock] at hk⟩
    rcases hu with hu | ⟨g, n, cap, X, h1, h2, h3, h4, r⟩
    · exact .inl hu
    · exact .inr ⟨g, n, cap, X.map Sb.more, h1, h2, by rw [row_more]; exact h3, by simpa using h4, r⟩
  · simp only [maxLen] at hm
    have hXl := Lib.hid hX; clear hX
    have hH := Lib.hid hB
    clear hB
    go_enter Try.func14, Try.ntmps14
    go_wp2_with fail
    go_loopw [3] (fun i wr => ∃ k : Nat, k ≤ c ∧ i = .int .i64 k ∧ Blk wr g 9 (0, 0) (rowOf (strB (B + 1)) ((X.take k).map Sb.bang) ++ rowOf (strB B) (X.drop k)) ∧ w.grownBy wr (some g))
      (fun i _ => c - (intOf i).toNat)
    case atStart => exact ⟨0, Nat.zero_le _, rfl, hH.out, ⟨rfl, rfl, rfl, Nat.le_refl _, fun _ _ _ => rfl⟩⟩
    case round =>
      obtain ⟨k, hk, rfl, hB, hgr⟩ := hrel
      by_cases hlt : k < c
      · have hkl : k < X.length := by rw [hXl.out]; exact hlt
        have hd : X.drop k = X[k] :: X.drop (k + 1) := List.drop_eq_getElem_cons hkl
        have ht : (X.take (k + 1)).map Sb.bang = (X.take k).map Sb.bang ++ [X[k].bang] := by rw [List.take_succ_eq_append_getElem hkl, List.map_append]; rfl
        have hC : (rowOf (strB (B + 1)) ((X.take k).map Sb.bang)).length = k := by
          rw [rowOf_length]; simp [strB]; omega
        have h1 : rowOf (strB B) (X.drop k) = .string (mk X[k].1) :: rowOf (strB B) (X.drop (k + 1)) := by rw [hd]; rfl
        have h2 : rowOf (strB (B + 1)) ((X.take (k + 1)).map Sb.bang) = rowOf (strB (B + 1)) ((X.take k).map Sb.bang) ++ [.string (mk (X[k].1 ++ [33]))] := by rw [ht, rowOf_append]; rfl
        rw [h1] at hB
        have hlen := X[k].2
        have hcell : wr.cell? ⟨g, k, none⟩ = some (.string (mk X[k].1)) := by
          rw [hB.cell, List.getElem?_append_right (by omega), hC, Nat.sub_self]; rfl
        have hfr : wr.frozen? ⟨g, k, none⟩ = false := by
          rw [hB.frozen]; simp
        have hst := hB.set k (.string (mk (X[k].1 ++ [33])))
        rw [List.set_append_right _ _ (by omega), hC, Nat.sub_self] at hst
        have hst2 : Hid (Blk (wr.setCell ⟨g, k, none⟩ (.string (mk (X[k].1 ++ [33])))) g 9 (0, 0) (rowOf (strB (B + 1)) ((X.take (k + 1)).map Sb.bang) ++ rowOf (strB B) (X.drop (k + 1)))) := by
          refine Lib.hid ?_
          rw [h2, List.append_assoc]; exact hst
        clear hB hst hd ht hC h1 h2
        generalize X[k].1 = Y at *
        have e : mk Y ++ ({ data := #[33] } : ByteArray) = mk (Y ++ [33]) := mk_append Y [33]
        have e' := Lib.hid e
        clear e
        go_wp2_with fail
        go_roundw
        case rel => exact ⟨k + 1, by omega, by go_num, by rw [e'.out]; exact hst2.out, ⟨hgr.os, hgr.tape, hgr.output, by have := hgr.size; simpa using this, fun i hi hne => (Below.heap_setCell _ _ _ i (fun e => hne (by rw [e]))).trans (hgr.block i hi hne)⟩⟩
        case measure => simp [intOf]; omega
      · have hk' : k = c := by omega
        subst hk'
        have hB2 : Hid (Blk wr g 9 (0, 0) (rowOf (strB (B + 1)) (X.map Sb.bang))) := Lib.hid (by
          rw [← hXl.out, List.take_length, List.drop_length] at hB
          have e : rowOf (strB B) ([] : List (Sb B)) = [] := rfl
          rw [e, List.append_nil] at hB; exact hB)
        clear hB
        go_wp2_with fail
        go_end0
        refine ⟨rfl, fun u hu => ?_, hgr, fun j hj => ?_⟩
        · rcases hu with hu | ⟨g', n', cap', X', h1, h2, h3, h4, h5, h6⟩
          · exact .inl hu
          · by_cases hgg : g' = g
            · subst hgg
              have e1 : X'.length = X.length := by
                have := h3.symm.trans hH.out
                simp only [Option.some.injEq, Obj.cells.injEq, Array.mk.injEq] at this
                have := congrArg List.length this.1
                rw [rowOf_length, rowOf_length, show (strB B).k = 1 from rfl] at this
                omega
              exact .inr ⟨g', n', cap', X.map Sb.bang, h1, h2, hB2.out, by simp; omega, h5, h6⟩
            · exact .inr ⟨g', n', cap', X'.map Sb.more, h1, h2, by rw [row_more]; exact (hgr.block g' h3.lt (fun e => hgg (by simpa using e))).trans h3, by simpa using h4, h5, h6⟩
        · simp [Value.ownBlock] at hj; subst hj; exact ⟨hg, _, hH.out⟩
end Go.Proofs.Ytndpebhhgicooaa
