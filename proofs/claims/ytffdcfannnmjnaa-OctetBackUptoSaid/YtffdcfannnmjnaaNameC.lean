/- Layer 3: Size, Check, copies of names, names that are the same. -/
import Derived.Test.YtffdcfannnmjnaaNameB
import Derived.Test.YtffdcfannnmjnaaParse2
import Derived.Test.YtffdcfannnmjnaaCut
import Derived.Deep.SlicePairs
namespace Go.Proofs.Ytffdcfannnmjnaa
open Go.RowKit
/-- texts of at most M bytes -/
def Sb (M : Nat) : Type := {s : List UInt8 // s.length ≤ M}
def strB (M : Nat) : Enc (Sb M) := ⟨9, 1, fun s => [.string (mk s.1)], ⟨[], Nat.zero_le _⟩, fun _ => rfl, fun x v hv => by simp at hv; subst hv; rfl, by decide⟩
def nmOf {M : Nat} (l : List (Sb M)) : Nm := l.map fun s => s.1
theorem rowOf_strB {M : Nat} (l : List (Sb M)) : rowOf (strB M) l = rowOf strE (nmOf l) := by
  induction l with
  | nil => rfl
  | cons c r ih => simp only [rowOf, List.flatMap_cons, nmOf, List.map_cons] at ih ⊢; rw [ih]; rfl
theorem nm_lift {M : Nat} : ∀ (l : Nm), (∀ s ∈ l, s.length ≤ M) → ∃ l' : List (Sb M), l = nmOf l'
  | [], _ => ⟨[], rfl⟩
  | s :: r, h => by
    obtain ⟨r', hr⟩ := nm_lift r fun x hx => h x (List.mem_cons_of_mem _ hx)
    exact ⟨⟨s, h s List.mem_cons_self⟩ :: r', congrArg (s :: ·) hr⟩
theorem nmOf_le {M : Nat} (l : List (Sb M)) : ∀ s ∈ nmOf l, s.length ≤ M := by
  intro s hs
  obtain ⟨x, _, rfl⟩ := List.mem_map.1 hs
  exact x.2
/-- a slice of texts of the call's own; the room behind holds short texts too -/
def OwnT (M : Nat) (w : World) (base : Nat) (v : Value) (l : Nm) : Prop := ∃ l' : List (Sb M), l = nmOf l' ∧ Own (strB M) w base v l'
theorem OwnT.own {M : Nat} {w : World} {base : Nat} {v : Value} {l : Nm} (h : OwnT M w base v l) : Own strE w base v l := by
  obtain ⟨l', rfl, h⟩ := h
  rcases h with ⟨rfl, rfl⟩ | ⟨g, cap, X, rfl, hg, hB, hX, hle, hm, ht⟩
  · exact .inl ⟨rfl, rfl⟩
  · refine .inr ⟨g, cap, nmOf X, by simp [nmOf], hg, by rw [← rowOf_strB]; exact hB, by simpa [nmOf] using hX, by simpa [nmOf] using hle, hm, ?_⟩
    have : (nmOf X).take l'.length = nmOf (X.take l'.length) := by simp [nmOf, List.map_take]
    have e : (nmOf l').length = l'.length := by simp [nmOf]
    rw [e, this, ht]
theorem OwnT.le {M : Nat} {w : World} {base : Nat} {v : Value} {l : Nm} (h : OwnT M w base v l) : ∀ s ∈ l, s.length ≤ M := by
  obtain ⟨l', rfl, _⟩ := h; exact nmOf_le l'
theorem OwnT.ext {M : Nat} {w w' : World} {base : Nat} {v : Value} {l : Nm} (h : OwnT M w base v l) (hb : Below w.heap.size w w') : OwnT M w' base v l := by
  obtain ⟨l', e, h⟩ := h; exact ⟨l', e, h.ext hb⟩
theorem OwnT.mono {M : Nat} {w : World} {base base' : Nat} {v : Value} {l : Nm} (h : OwnT M w base v l) (hb : base' ≤ base) : OwnT M w base' v l := by
  obtain ⟨l', e, h⟩ := h; exact ⟨l', e, h.mono hb⟩
theorem OwnT.nil (M : Nat) (w : World) (base : Nat) : OwnT M w base (.slice none 0 0) [] := ⟨[], rfl, Own.nil _ _ _⟩
theorem OwnT.lt {M : Nat} {w : World} {base : Nat} {v : Value} {l : Nm} (h : OwnT M w base v l) : ∀ k, v.ownBlock = some k → base ≤ k ∧ k < w.heap.size := by
  obtain ⟨l', e, h⟩ := h; exact h.lt
theorem OwnT.shape {M : Nat} {w : World} {base : Nat} {v : Value} {l : Nm} (h : OwnT M w base v l) : ∃ a cap, v = .slice a l.length cap := h.own.shape
theorem OwnT.rd {M : Nat} {w : World} {base : Nat} {v : Value} {l : Nm} (h : OwnT M w base v l) : ∃ a c, v = .slice a l.length c ∧ Rd strE w a l.length c l := h.own.rd
theorem OwnT.made (M : Nat) (w : World) (C : Array Value) (l : Nm) (n : Nat) (hC : C.toList = rowOf strE l) (hn : n = l.length) (hm : n ≤ maxLen) (hM : ∀ s ∈ l, s.length ≤ M) : OwnT M (w.alloc (.cells C 9)) w.heap.size (.slice (some ⟨w.heap.size, 0, none⟩) n n) l := by
  obtain ⟨l', rfl⟩ := nm_lift l hM
  exact ⟨l', rfl, Own.made (strB M) w C l' n (by rw [rowOf_strB]; exact hC) (by rw [hn]; simp [nmOf]) hm⟩
/-- append onto a slice of texts of the call's own, for the walk -/
theorem app_ownT {M : Nat} {ops : Array Oper} {rest : List Oper} {o : Oper} {a : Act} {Q : Exit → Act → World → Prop} {W : World} (hgd : o.guard = none) (s x : Operand) (t tx : TypeId)
    (ho : o.op = .call { callee := .builtin .append, args := #[s, x], argTypes := #[t, tx] }) (ht : Try.prog.underlying t = some (.slice 9)) (htx : Try.prog.underlying tx = some (.slice 9)) {base : Nat} {v : Value} {ax : Option Addr} {nx cx : Nat} {l news : Nm} (hs : a.eval s = v) (hown : OwnT M W base v l) (hx : a.eval x = .slice ax nx cx) (hsrc : Rd strE W ax nx cx news)
    (hM : ∀ s ∈ news, s.length ≤ M) (hbytes : l.length + news.length ≤ 8796093022208) (hbase : base ≤ W.heap.size)
    (h : ∀ v' w', OwnT M w' base v' (l ++ news) → W.grownBy w' v.ownBlock → (v'.ownBlock = v.ownBlock ∨ v'.ownBlock = some W.heap.size) → wpList Try.prog ops Q rest (a.put o.dst v') w') : wpList Try.prog ops Q (o :: rest) a W := by
  obtain ⟨i0, hi, hz0, hz1, hz2⟩ := info_parts Try.info9
  obtain ⟨l', rfl, hown⟩ := hown
  obtain ⟨news', rfl⟩ := nm_lift news hM
  have h1 := hsrc.src (P := Try.prog) htx
  have e1 : (nmOf news').length = news'.length := by simp [nmOf]
  have e2 : (nmOf l').length = l'.length := by simp [nmOf]
  rw [e1, ← rowOf_strB] at h1
  rw [e1, e2] at hbytes
  refine app_own (E := strB M) hgd s x t tx ho ht hi hz0 hz1 hz2 rfl hs hown hx h1 (by simp [maxLen]; omega) (by omega) hbase ?_
  intro v' w' h2 h3 h4
  exact h v' w' ⟨l' ++ news', by simp [nmOf], h2⟩ h3 h4
def sizeL (l : Nm) : Nat := (l.map fun s => s.length + 1).sum + 1
theorem sizeL_take (l : Nm) (k : Nat) (h : k < l.length) : sizeL (l.take (k + 1)) = sizeL (l.take k) + (l[k].length + 1) := by
  unfold sizeL
  rw [List.take_succ_eq_append_getElem h, List.map_append, List.sum_append]
  simp; omega
theorem sizeL_le (l : Nm) (k : Nat) : sizeL (l.take k) ≤ sizeL l := by
  unfold sizeL
  have := congrArg (fun l : Nm => (l.map fun s => s.length + 1).sum) (List.take_append_drop k l)
  simp only [List.map_append, List.sum_append] at this
  omega
theorem sizeL_bound (M : Nat) : ∀ (l : Nm), (∀ s ∈ l, s.length ≤ M) → sizeL l ≤ l.length * (M + 1) + 1
  | [], _ => by simp [sizeL]
  | s :: r, h => by
    have h1 := sizeL_bound M r fun x hx => h x (List.mem_cons_of_mem _ hx)
    have h2 := h s List.mem_cons_self
    simp only [sizeL, List.map_cons, List.sum_cons, List.length_cons, Nat.add_mul, Nat.one_mul] at h1 ⊢
    omega
set_option maxHeartbeats 1000000 in
set_option maxRecDepth 100000 in
theorem size_any {w : World} {a : Option Addr} {n c : Nat} {l : Nm} (h : Rd strE w a n c l) (hs : sizeL l ≤ 1152921504606846976) :
    Calls Try.prog 73 #[.slice a n c] w fun e w' => e = .returned (.int .i64 (sizeL l)) ∧ w = w' := by
  have hl := h.len
  subst hl
  have hm := h.most
  have hc := h.cap
  have hH := Lib.hid h
  clear h
  simp only [maxLen] at hm
  go_enter Try.func73, Try.ntmps73
  go_wp2_with fail
  go_loopw [3, 8] (fun s i wr => ∃ k : Nat, k ≤ l.length ∧ i = .int .i64 k ∧ s = .int .i64 (sizeL (l.take k)) ∧ w = wr)
    (fun _ i _ => l.length - (intOf i).toNat)
  case atStart => exact ⟨0, Nat.zero_le _, rfl, rfl, rfl⟩
  case round =>
    obtain ⟨k, hk, rfl, rfl, rfl⟩ := hrel
    by_cases hlt : k < l.length
    · obtain ⟨b, o, rfl, hcs⟩ := rd_str hH.out (by omega)
      have hck := hcs k hlt
      clear hcs
      have e1 := sizeL_take l k hlt
      have e2 := sizeL_le l (k + 1)
      generalize hX : l[k] = X at *
      generalize sizeL (l.take k) = S at *
      have hS : S + (X.length + 1) ≤ 1152921504606846976 := by omega
      have e1' := Lib.hid e1
      clear e1 e2
      go_wp2_with fail
      go_roundw
      case rel => exact ⟨k + 1, by omega, by go_num, by rw [e1'.out]; simp, trivial⟩
      case measure => simp [intOf]; omega
    · have hk' : k = l.length := by omega
      subst hk'
      rw [List.take_length]
      go_wp2_with fail
      go_ret
      exact ⟨rfl, rfl⟩
def okLab (s : List UInt8) : Prop := 1 ≤ s.length ∧ s.length ≤ 63
instance (s : List UInt8) : Decidable (okLab s) := by unfold okLab; infer_instance
def checkL (l : Nm) : Nat := if ∀ s ∈ l, okLab s then (if 255 < sizeL l then 5 else 0) else 4
set_option maxHeartbeats 1000000 in
set_option maxRecDepth 100000 in
theorem check_any {w : World} {a : Option Addr} {n c : Nat} {l : Nm} (h : Rd strE w a n c l) (hn : n ≤ 8796093022208) :
    Calls Try.prog 72 #[.slice a n c] w fun e w' => e = .returned (.int .i64 (checkL l)) ∧ w = w' := by
  have hl := h.len
  subst hl
  have hm := h.most
  have hc := h.cap
  have hH := Lib.hid h
  clear h
  simp only [maxLen] at hm
  go_enter Try.func72, Try.ntmps72
  go_wp2_with fail
  go_loopw [8] (fun i wr => ∃ k : Nat, k ≤ l.length ∧ i = .int .i64 k ∧ (∀ j (hj : j < l.length), j < k → okLab l[j]) ∧ w = wr)
    (fun i _ => l.length - (intOf i).toNat)
  case atStart => exact ⟨0, Nat.zero_le _, rfl, fun j _ h => (by omega), rfl⟩
  case round =>
    obtain ⟨k, hk, rfl, hp0, rfl⟩ := hrel
    have hp := Lib.hid hp0
    clear hp0
    by_cases hlt : k < l.length
    · obtain ⟨b, o, rfl, hcs⟩ := rd_str hH.out (by omega)
      have hck := hcs k hlt
      clear hcs
      generalize hX : l[k] = X at *
      by_cases h3 : okLab X
      · go_wp2_with fail
        refine (check_yes X _ h3).mono ?_
        rintro e w1 ⟨rfl, rfl⟩
        go_wp2_with fail
        go_roundw
        case rel => exact ⟨k + 1, by omega, by go_num, fun j hj h => (by
          by_cases e : j = k
          · subst e; rw [hX]; exact h3
          · exact hp.out j hj (by omega)), trivial⟩
        case measure => simp [intOf]; omega
      · go_wp2_with fail
        refine (check_no X _ (by unfold okLab at h3; omega)).mono ?_
        rintro e w1 ⟨rfl, rfl⟩
        go_wp2_with fail
        go_ret
        refine ⟨?_, rfl⟩
        have : checkL l = 4 := by
          unfold checkL; rw [if_neg]; intro h; exact h3 (hX ▸ h _ (List.getElem_mem hlt))
        rw [this]; rfl
    · have hk' : k = l.length := by omega
      subst hk'
      have hall : ∀ s ∈ l, okLab s := fun s hs => by
        obtain ⟨j, hj, rfl⟩ := List.getElem_of_mem hs
        exact hp.out j hj hj
      have hC : checkL l = if 255 < sizeL l then 5 else 0 := by unfold checkL; rw [if_pos hall]
      have hsz : sizeL l ≤ 1152921504606846976 := by
        have := sizeL_bound 63 l fun s hs => (hall s hs).2
        omega
      have hC' := Lib.hid hC
      clear hC hall
      go_wp2_with fail
      refine (size_any hH.out hsz).mono ?_
      rintro e w1 ⟨rfl, rfl⟩
      by_cases h5 : 255 < sizeL l
      · go_wp2_with fail
        go_ret
        exact ⟨by rw [hC'.out, if_pos h5]; rfl, rfl⟩
      · go_wp2_with fail
        go_ret
        exact ⟨by rw [hC'.out, if_neg h5]; rfl, rfl⟩
end Go.Proofs.Ytffdcfannnmjnaa
