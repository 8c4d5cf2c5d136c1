/- What is written is read again: plain. Nothing of the program. -/
import Derived.Test.YtndpebhhgicooaaSqM
import Derived.Test.YtndpebhhgicooaaWrD
namespace Go.Proofs.Ytndpebhhgicooaa
open Go Go.RowKit
theorem sizeL_append (a b : Nm) : sizeL (a ++ b) + 1 = sizeL a + sizeL b := by
  unfold sizeL
  rw [List.map_append, List.sum_append]
  omega
/-- at p, in a stretch that began at s, the labels L are read, up to E -/
def Rds (B : List UInt8) (p s : Nat) (L : Nm) (E : Nat) : Prop := ∀ (nx : Int) (n : Nm), sizeL (n ++ L) ≤ 255 → rdF B true p s nx n = some (n ++ L, if nx < 0 then (E : Int) else nx)
theorem Rds.more {B : List UInt8} {p s : Nat} {L : Nm} {E : Nat} (h : Rds B p s L E) (m : List UInt8) : Rds (B ++ m) p s L E := fun nx n hs => rd_more (h nx n hs)
theorem Rds.stop {B : List UInt8} {p s : Nat} (hp : p < B.length) (h0 : cA B p = 0) : Rds B p s [] (p + 1) := fun nx n _ => by
  rw [rd_stop hp h0]
  simp
theorem Rds.label {B : List UInt8} {p s : Nat} {l : List UInt8} {L : Nm} {E : Nat} (hp : p + 1 + cA B p ≤ B.length) (h0 : cA B p ≠ 0) (h63 : cA B p ≤ 63) (hl : labA B p = l) (h : Rds B (p + 1 + cA B p) s L E) : Rds B p s (l :: L) E := fun nx n hs => by
  have e : n ++ l :: L = (n ++ [l]) ++ L := by simp
  rw [e] at hs ⊢
  have h1 := sizeL_append (n ++ [l]) L
  have h2 := sizeL_ge L
  rw [rd_label (by omega) h0 (by omega) (by rw [hl]; omega), hl]
  exact h nx _ hs
theorem Rds.jump {B : List UInt8} {p s v : Nat} {L : Nm} {E : Nat} (hc : 192 ≤ cA B p) (h1 : p + 1 < B.length) (ht : toA B p = v) (hv : v < s) (h : Rds B v v L E) : Rds B p s L (p + 2) := fun nx n hs => by
  rw [rd_jump (by omega) hc rfl h1 (by omega), ht, h _ n hs]
  congr 2
  by_cases hx : nx < 0
  · rw [if_pos hx, if_pos hx, if_neg (by omega)]; simp
  · rw [if_neg hx, if_neg hx, if_neg hx]
theorem cA_app (a r : List UInt8) (c : UInt8) : cA (a ++ c :: r) a.length = c.toNat := by
  rw [cA_get (by simp)]
  simp
theorem labA_app (a r s : List UInt8) (c : UInt8) (hc : c.toNat = s.length) : labA (a ++ c :: (s ++ r)) a.length = s := by
  unfold labA
  rw [cA_app, hc]
  have e : a ++ c :: (s ++ r) = (a ++ [c]) ++ (s ++ r) := by simp
  rw [e, List.take_append, List.drop_append]
  have e1 : (a ++ [c]).length = a.length + 1 := by simp
  rw [List.take_of_length_le (by rw [e1]; omega), List.drop_of_length_le (by rw [e1]; omega), e1]
  rw [show a.length + 1 - (a.length + 1) = 0 by omega, show a.length + 1 + s.length - (a.length + 1) = s.length by omega]
  simp
theorem oct_len (s : List UInt8) (h : okLab s) : (UInt8.ofNat s.length).toNat = s.length := by
  unfold okLab at h
  simp
  omega
theorem octL_nil : octL [] = [0] := rfl
theorem octL_cons (s : List UInt8) (r : Nm) : octL (s :: r) = UInt8.ofNat s.length :: (s ++ octL r) := by simp [octL, octs]
theorem octL_inj : ∀ (L L' : Nm), (∀ t ∈ L, okLab t) → (∀ t ∈ L', okLab t) → octL L = octL L' → L = L'
  | [], [], _, _, _ => rfl
  | [], s :: r, _, h', e => by
    rw [octL_nil, octL_cons] at e
    have h1 := h' s List.mem_cons_self
    have h2 := congrArg UInt8.toNat (List.cons.inj e).1
    rw [oct_len s h1] at h2
    unfold okLab at h1
    have h3 : (0 : UInt8).toNat = 0 := rfl
    rw [h3] at h2
    omega
  | s :: r, [], h, _, e => by
    rw [octL_nil, octL_cons] at e
    have h1 := h s List.mem_cons_self
    have h2 := congrArg UInt8.toNat (List.cons.inj e).1
    rw [oct_len s h1] at h2
    unfold okLab at h1
    have h3 : (0 : UInt8).toNat = 0 := rfl
    rw [h3] at h2
    omega
  | s :: r, s' :: r', h, h', e => by
    rw [octL_cons, octL_cons] at e
    obtain ⟨e1, e2⟩ := List.cons.inj e
    have h2 := congrArg UInt8.toNat e1
    rw [oct_len s (h s List.mem_cons_self), oct_len s' (h' s' List.mem_cons_self)] at h2
    obtain ⟨e3, e4⟩ := List.append_inj e2 h2
    rw [e3, octL_inj r r' (fun t ht => h t (List.mem_cons_of_mem _ ht)) (fun t ht => h' t (List.mem_cons_of_mem _ ht)) e4]
/-- each known tail stands where it is said to stand -/
def Inv (B : List UInt8) (f : List UInt8 → Option Int) : Prop := ∀ x v, f x = some v → ∃ (p : Nat) (L : Nm) (E : Nat), v = (p : Int) ∧ p < 16384 ∧ p < B.length ∧ x = octL L ∧ (∀ t ∈ L, okLab t) ∧ Rds B p p L E
theorem Inv.nil : Inv [] (fun _ => none) := fun x v h => by cases h
theorem Inv.range {B : List UInt8} {f : List UInt8 → Option Int} (h : Inv B f) : ∀ x v, f x = some v → 0 ≤ v ∧ v < 16384 := fun x v hx => by
  obtain ⟨p, L, E, rfl, hp, _⟩ := h x v hx
  omega
theorem Inv.more {B : List UInt8} {f : List UInt8 → Option Int} (h : Inv B f) (m : List UInt8) : Inv (B ++ m) f := fun x v hx => by
  obtain ⟨p, L, E, h1, h2, h3, h4, h5, h6⟩ := h x v hx
  exact ⟨p, L, E, h1, h2, by simp; omega, h4, h5, h6.more m⟩
theorem wrN_reads {B : List UInt8} {f : List UInt8 → Option Int} (hI : Inv B f) (back : Bool) : ∀ (L : Nm) (out : List UInt8) (fr : List UInt8 → Option Int), (∀ t ∈ L, okLab t) →
    ∃ t, (wrN B.length f back out fr L).1 = out ++ t ∧ 1 ≤ t.length ∧ t.length ≤ sizeL L ∧ (back = false → t.length = sizeL L) ∧
      (∀ s, B.length ≤ s → Rds (B ++ (out ++ t)) (B.length + out.length) s L (B.length + out.length + t.length)) ∧
      (∀ x v, (wrN B.length f back out fr L).2 x = some v → fr x = some v ∨ ∃ (p : Nat) (L' : Nm) (E : Nat), v = (p : Int) ∧ p < 16384 ∧ p < (B ++ (out ++ t)).length ∧ x = octL L' ∧ (∀ t ∈ L', okLab t) ∧ Rds (B ++ (out ++ t)) p p L' E) := by
  intro L
  induction L with
  | nil =>
    intro out fr _
    refine ⟨[0], rfl, by simp, by simp [sizeL], fun _ => by simp [sizeL], fun s _ => ?_, fun x v h => .inl h⟩
    have e : B ++ (out ++ [0]) = (B ++ out) ++ 0 :: [] := by simp
    have h1 := cA_app (B ++ out) [] 0
    rw [← e] at h1
    have e2 : B.length + out.length = (B ++ out).length := by simp
    rw [e2]
    exact Rds.stop (by simp) h1
  | cons s r ih =>
    intro out fr hok
    have hs := hok s List.mem_cons_self
    have hr := fun t ht => hok t (List.mem_cons_of_mem s ht)
    have hsz := sizeL_cons s r
    have hlab : ∀ fr', (∀ x v, fr' x = some v → fr x = some v ∨ (x = octL (s :: r) ∧ v = ((B.length + out.length : Nat) : Int) ∧ B.length + out.length < 16384)) →
        ∃ t, (wrN B.length f back (out ++ UInt8.ofNat s.length :: s) fr' r).1 = out ++ t ∧ 1 ≤ t.length ∧ t.length ≤ sizeL (s :: r) ∧ (back = false → t.length = sizeL (s :: r)) ∧
          (∀ s', B.length ≤ s' → Rds (B ++ (out ++ t)) (B.length + out.length) s' (s :: r) (B.length + out.length + t.length)) ∧
          (∀ x v, (wrN B.length f back (out ++ UInt8.ofNat s.length :: s) fr' r).2 x = some v → fr x = some v ∨ ∃ (p : Nat) (L' : Nm) (E : Nat), v = (p : Int) ∧ p < 16384 ∧ p < (B ++ (out ++ t)).length ∧ x = octL L' ∧ (∀ t ∈ L', okLab t) ∧ Rds (B ++ (out ++ t)) p p L' E) := by
      intro fr' hfr
      obtain ⟨t, h1, h2, h3, h4, h5, h6⟩ := ih (out ++ UInt8.ofNat s.length :: s) fr' hr
      have e0 : out ++ UInt8.ofNat s.length :: s ++ t = out ++ (UInt8.ofNat s.length :: (s ++ t)) := by simp
      rw [e0] at h1 h5 h6
      have hB : B ++ (out ++ (UInt8.ofNat s.length :: (s ++ t))) = (B ++ out) ++ UInt8.ofNat s.length :: (s ++ t) := by simp
      have hp : B.length + out.length = (B ++ out).length := by simp
      have c1 := cA_app (B ++ out) (s ++ t) (UInt8.ofNat s.length)
      have c2 := labA_app (B ++ out) t s (UInt8.ofNat s.length) (oct_len s hs)
      rw [← hB, oct_len s hs] at c1
      rw [← hB] at c2
      rw [← hp] at c1 c2
      have hs' := hs
      unfold okLab at hs'
      have hR : ∀ s', B.length ≤ s' → Rds (B ++ (out ++ UInt8.ofNat s.length :: (s ++ t))) (B.length + out.length) s' (s :: r) (B.length + out.length + (UInt8.ofNat s.length :: (s ++ t)).length) := by
        intro s' hs''
        have h7 := h5 s' hs''
        refine Rds.label (by rw [c1]; simp; omega) (by omega) (by omega) c2 ?_
        rw [c1]
        have e1 : B.length + (out ++ UInt8.ofNat s.length :: s).length = B.length + out.length + 1 + s.length := by simp; omega
        have e2 : B.length + out.length + (UInt8.ofNat s.length :: (s ++ t)).length = B.length + (out ++ UInt8.ofNat s.length :: s).length + t.length := by simp; omega
        rw [e2]
        rw [e1] at h7 ⊢
        exact h7
      refine ⟨UInt8.ofNat s.length :: (s ++ t), h1, by simp, by simp; omega, fun hb => by have := h4 hb; simp; omega, hR, fun x v hx => ?_⟩
      rcases h6 x v hx with h7 | h7
      · rcases hfr x v h7 with h8 | ⟨h8, h9, h10⟩
        · exact .inl h8
        · exact .inr ⟨_, _, _, h9, h10, by (simp; try omega), h8, hok, hR _ (by omega)⟩
      · exact .inr h7
    cases hf : f (octL (s :: r)) with
    | none =>
      rw [wrN_no hf]
      refine hlab _ fun x v hx => ?_
      split at hx
      · dsimp only at hx
        split at hx
        · cases hx
          exact .inr ⟨‹_›, rfl, ‹_›⟩
        · exact .inl hx
      · exact .inl hx
    | some v =>
      cases back with
      | false =>
        rw [wrN_skip hf]
        exact hlab _ fun x v hx => .inl hx
      | true =>
        rw [wrN_ptr hf]
        obtain ⟨p, L', E, rfl, hp, hpB, hx, hok', hRd⟩ := hI _ _ hf
        obtain rfl := octL_inj _ _ hok hok' hx
        have h1 := sizeL_ge r
        unfold okLab at hs
        refine ⟨ptrB p, rfl, by simp [ptrB], by simp [ptrB]; omega, fun h => (by cases h), fun s' hs' => ?_, fun x v h => .inl h⟩
        have hB : B ++ (out ++ ptrB p) = (B ++ out) ++ UInt8.ofNat (192 + p / 256) :: [UInt8.ofNat (p % 256)] := by simp [ptrB]
        have hB2 : B ++ (out ++ ptrB p) = (B ++ out ++ [UInt8.ofNat (192 + p / 256)]) ++ UInt8.ofNat (p % 256) :: [] := by simp [ptrB]
        have c1 := cA_app (B ++ out) [UInt8.ofNat (p % 256)] (UInt8.ofNat (192 + p / 256))
        have c2 := cA_app (B ++ out ++ [UInt8.ofNat (192 + p / 256)]) [] (UInt8.ofNat (p % 256))
        rw [← hB] at c1
        rw [← hB2] at c2
        have e1 : (UInt8.ofNat (192 + p / 256)).toNat = 192 + p / 256 := by simp; omega
        have e2 : (UInt8.ofNat (p % 256)).toNat = p % 256 := by simp
        have e3 : (B ++ out).length = B.length + out.length := by simp
        have e4 : (B ++ out ++ [UInt8.ofNat (192 + p / 256)]).length = B.length + out.length + 1 := by simp; omega
        rw [e1, e3] at c1
        rw [e2, e4] at c2
        have e5 : (ptrB (p : Int)).length = 2 := rfl
        rw [e5]
        refine Rds.jump (v := p) (by omega) (by simp [e5]; omega) (by unfold toA; rw [c1, c2]; omega) (by omega) (hRd.more _)
/-- a name that is written: it is read again, and the known tails stand -/
theorem wrN_name {B : List UInt8} {f : List UInt8 → Option Int} (hI : Inv B f) (back : Bool) {L : Nm} (hc : checkL L = 0) {t : List UInt8} {fr : List UInt8 → Option Int} (hw : wrN B.length f back [] (fun _ => none) L = (t, fr)) :
    1 ≤ t.length ∧ t.length ≤ sizeL L ∧ (back = false → t.length = sizeL L) ∧ (∀ m, rdF (B ++ t ++ m) true B.length B.length (-1) [] = some (L, ((B.length + t.length : Nat) : Int))) ∧ Inv (B ++ t) (over fr f) := by
  obtain ⟨hok, h255⟩ := checkL_zero hc
  obtain ⟨t', h1, h2, h3, h4, h5, h6⟩ := wrN_reads hI back L [] (fun _ => none) hok
  rw [hw] at h1 h6
  simp only [List.nil_append] at h1 h5 h6
  subst h1
  refine ⟨h2, h3, h4, fun m => ?_, fun x v hx => ?_⟩
  · have := rd_more (m := m) (h5 B.length (Nat.le_refl _) (-1) [] (by simpa using h255))
    simpa using this
  · unfold over at hx
    split at hx
    · cases hx
      rcases h6 x v ‹_› with h7 | h7
      · cases h7
      · exact h7
    · exact hI.more t x v hx
end Go.Proofs.Ytndpebhhgicooaa
