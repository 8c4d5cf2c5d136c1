/- How structs and slices that came in are opened by their parts; no part of them is too heavy. Nothing of the program. -/
import Derived.Test.YtojdjhicjhhblaaDoorOpenB
import Derived.Deep.Slices
import Derived.Deep.Fields
import Derived.ChangeSame
import Derived.Lib.SmallJoins
namespace Go.Proofs.YtojdjhicjhhblaaDoor
open Go.ChangeShapes Go.WideShapes Go.RowKit Go.Deep
section
variable {H : Type} {P : Program}
/-- no part of a datum is too heavy -/
def Sz (P : Program) (t : TypeId) (d : DataW H) : Prop := ∀ n ∈ d.weights P t, n ≤ reachBytes
theorem sz_of {ts : List TypeId} {ds : List (DataW H)} (h : (DataW.weightsEach P ts ds).all (· ≤ reachBytes) = true) {j : Nat} {t : TypeId} {d : DataW H} (ht : ts[j]? = some t) (hd : ds[j]? = some d) : Sz P t d := fun n hn => by
  have := List.all_eq_true.1 h n (DataW.weights_mem_each ht hd n hn)
  simpa using this
theorem sz_part {t : TypeId} {fs : Array Field} {parts : List (DataW H)} (hs : P.underlying t = some (.struct fs)) (h : Sz P t (.agg parts)) {j : Nat} {f : Field} {d : DataW H} (hf : fs[j]? = some f) (hd : parts[j]? = some d) : Sz P f.type d := fun n hn => by
  refine h n ?_
  rw [DataW.weights, hs]
  exact DataW.weights_mem_each (ts := fs.toList.map (·.type)) (j := j) (by simp [hf]) hd n hn
theorem weights_mem_all {e : TypeId} : ∀ {ds : List (DataW H)} {d : DataW H}, d ∈ ds → ∀ n ∈ d.weights P e, n ∈ DataW.weightsAll P e ds
  | x :: r, d, h, n, hn => by
    rw [DataW.weightsAll, List.mem_append]
    rcases List.mem_cons.1 h with rfl | h
    · exact .inl hn
    · exact .inr (weights_mem_all h n hn)
theorem sz_elem {t e : TypeId} {elems spare : List (DataW H)} (hs : P.underlying t = some (.slice e)) (h : Sz P t (.slice elems spare)) {d : DataW H} (hd : d ∈ elems ∨ d ∈ spare) : Sz P e d := fun n hn => by
  refine h n ?_
  rw [DataW.weights, hs]
  refine List.mem_cons_of_mem _ ?_
  rw [List.mem_append]
  rcases hd with hd | hd
  · exact .inl (weights_mem_all hd n hn)
  · exact .inr (weights_mem_all hd n hn)
theorem sz_slice {t e : TypeId} {elems spare : List (DataW H)} (hs : P.underlying t = some (.slice e)) (h : Sz P t (.slice elems spare)) : (elems.length + spare.length) * P.bytesOf e ≤ reachBytes := h _ (by rw [DataW.weights, hs]; exact List.mem_cons_self)
theorem sz_str {t : TypeId} {b : List UInt8} (h : Sz (H := H) P t (.lit (.string b))) : b.length ≤ reachBytes := h _ (by rw [DataW.weights]; exact List.mem_singleton.2 rfl)
end
/-- the parts of a struct: type, place, cells -/
def partsOf (P : Program) (t : TypeId) : Option (List (TypeId × Nat × Nat)) := match P.underlying t with
  | some (.struct fs) => some (fs.toList.map fun f => (f.type, f.offset, P.cellsOf f.type))
  | _ => none
section
variable {H : Type} {enc : TypeId × Value → H} {P : Program} {w : World}
theorem open_parts {t : TypeId} {L : List (TypeId × Nat × Nat)} (hL : partsOf P t = some L) {fuel : Nat} {cs : List Value} {x : DataW H × List MemPlace} (hf : DataW.trod enc P w 0 (fun _ => true) true fuel t cs = some x) (hz : Sz P t x.1) :
    ∃ n, cs.length = P.cellsOf t ∧ ∀ (i : Nat) (p : TypeId × Nat × Nat), L[i]? = some p → ∃ y, DataW.trod enc P w 0 (fun _ => true) true n p.1 ((cs.drop p.2.1).take p.2.2) = some y ∧ Sz P p.1 y.1 := by
  unfold partsOf at hL
  split at hL
  · rename_i fs hfs
    cases hL
    obtain ⟨xs, n, _, hx, hlen, hxs, hg⟩ := DataW.trod_struct hfs hf
    refine ⟨n, hlen, fun i p hp => ?_⟩
    simp only [List.getElem?_map, Option.map_eq_some_iff, Array.getElem?_toList] at hp
    obtain ⟨f, hf1, rfl⟩ := hp
    have h1 := hg i f hf1
    have hlt : i < xs.length := by
      rw [hxs]; exact (Array.getElem?_eq_some_iff.1 hf1).1
    refine ⟨xs[i], by rw [h1, List.getElem?_eq_getElem hlt], ?_⟩
    rw [hx] at hz
    exact sz_part hfs hz hf1 (by simp [hlt])
  · cases hL
/-- a slice whose elements open -/
theorem open_elems {α : Type} {E : Enc α} {G : α → Prop} {t : TypeId} (ht : P.underlying t = some (.slice E.e)) (hk : P.cellsOf E.e = E.k)
    (hel : ∀ (n : Nat) (cs : List Value) (x : DataW H × List MemPlace), DataW.trod enc P w 0 (fun _ => true) true n E.e cs = some x → Sz P E.e x.1 → cs.length = E.k → ∃ a, cs = E.f a ∧ G a)
    {fuel : Nat} {v : Value} {y : DataW H × List MemPlace} (hf : DataW.trod enc P w 0 (fun _ => true) true fuel t [v] = some y) (hz : Sz P t y.1) :
    ∃ a n c R, v = .slice a n c ∧ Rd E w a n c R ∧ (∀ q ∈ R, G q) ∧ c * P.bytesOf E.e ≤ reachBytes := by
  rcases Go.Deep.open_slice ht hf with ⟨hcs, _⟩ | ⟨x, len, cap, m, n, D, Pl, hcs, _, hl, hm, hmm, hx, hi⟩
  · simp at hcs
    refine ⟨none, 0, 0, [], hcs, Rd.nil _ _, ?_, by rw [Nat.zero_mul]; exact Nat.zero_le _⟩
    intro q hq
    cases hq
  · simp at hcs
    have hm' : m = cap := by simpa using hmm
    rw [hx] at hz
    have hw := sz_slice ht hz
    have each : ∀ i, i < cap → ∃ q : α, (∀ j u, (E.f q)[j]? = some u → w.cell? (x.add (i * E.k + j)) = some u) ∧ G q := by
      intro i hic
      obtain ⟨cs', hc, ht'⟩ := hi i (by omega)
      rw [hk] at hc
      obtain ⟨_, hcl, hat⟩ := World.cells?_some hc
      have hmem : D i ∈ (List.range len).map D ∨ D i ∈ (List.range (m - len)).map fun j => D (len + j) := by
        by_cases h : i < len
        · exact .inl (List.mem_map.2 ⟨i, List.mem_range.2 h, rfl⟩)
        · exact .inr (List.mem_map.2 ⟨i - len, List.mem_range.2 (by omega), by rw [show len + (i - len) = i by omega]⟩)
      obtain ⟨q, e, hG⟩ := hel n cs' _ ht' (sz_elem ht hz hmem) hcl
      refine ⟨q, fun j u hj => ?_, hG⟩
      have hj3 : j < E.k := by
        have := (List.getElem?_eq_some_iff.1 hj).1
        rwa [E.len] at this
      rw [← Go.Deep.add_add, hat j hj3, e]
      exact hj
    haveI : Inhabited α := ⟨E.z⟩
    obtain ⟨q, hq⟩ := choose_lt each
    refine ⟨_, len, cap, (List.range len).map q, hcs, ⟨by simp, hl, hm, fun j hj i hik => ?_⟩, fun z hz => ?_, ?_⟩
    · have hj' : j < len := by simpa using hj
      obtain ⟨u0, hu0⟩ := E.get_some (q 0) 0 E.pos
      obtain ⟨b, o, rfl⟩ := spot_none (by simpa [Addr.add] using (hq 0 (by omega)).1 0 u0 hu0)
      refine ⟨b, o, rfl, ?_⟩
      obtain ⟨u1, hu1⟩ := E.get_some (q j) i hik
      have h1 := (hq j (by omega)).1 i u1 hu1
      rw [Addr.add_lit] at h1
      rw [h1]
      simp only [List.getElem_map, List.getElem_range]
      exact hu1.symm
    · simp only [List.mem_map, List.mem_range] at hz
      obtain ⟨j, hj, rfl⟩ := hz
      exact (hq j (by omega)).2
    · have e : ((List.range len).map D).length + ((List.range (m - len)).map fun j => D (len + j)).length = cap := by simp; omega
      rw [e] at hw
      exact hw
/-- the elements' lists, side by side -/
theorem lists_of {α β : Type} {G : α → β → Prop} : ∀ (R : List α), (∀ q ∈ R, ∃ l, G q l) → ∃ XS : List β, R.length = XS.length ∧ ∀ (j : Nat) (p : α) (X : β), R[j]? = some p → XS[j]? = some X → G p X
  | [], _ => ⟨[], rfl, fun j p X hp => by simp at hp⟩
  | a :: r, h => by
    obtain ⟨l, hl⟩ := h a List.mem_cons_self
    obtain ⟨XS, h1, h2⟩ := lists_of r fun q hq => h q (List.mem_cons_of_mem _ hq)
    refine ⟨l :: XS, by simp [h1], fun j p X hp hX => ?_⟩
    cases j with
    | zero => simp at hp hX; subst hp hX; exact hl
    | succ j => simp at hp hX; exact h2 j p X hp hX
/-- bytes -/
theorem el_byte (he : P.underlying 5 = some (.int .u8)) {n : Nat} {cs : List Value} {x : DataW H × List MemPlace} (hf : DataW.trod enc P w 0 (fun _ => true) true n 5 cs = some x) : ∃ a : UInt8, cs = byteE.f a ∧ True := by
  obtain ⟨u, rfl, _, hw⟩ := DataW.trod_int he hf
  have hr := wf_range hw
  refine ⟨UInt8.ofNat u.toNat, ?_, trivial⟩
  show [Value.int .u8 u] = [.int .u8 ((UInt8.ofNat u.toNat).toNat : Nat)]
  congr 2
  simp
  omega
theorem wf_u32 {q : Int} (h : (Lit.int .u32 q).wf = true) : 0 ≤ q ∧ q < 4294967296 := by
  simp [Lit.wf, IntKind.min, IntKind.max, IntKind.signed, IntKind.bits] at h
  omega
theorem wf_u16 {q : Int} (h : (Lit.int .u16 q).wf = true) : 0 ≤ q ∧ q < 65536 := by
  simp [Lit.wf, IntKind.min, IntKind.max, IntKind.signed, IntKind.bits] at h
  omega
theorem el_str (he : P.underlying 9 = some .string) {n : Nat} {cs : List Value} {x : DataW H × List MemPlace} (hf : DataW.trod enc P w 0 (fun _ => true) true n 9 cs = some x) (hz : Sz P 9 x.1) : ∃ l : List UInt8, cs = strE.f l ∧ l.length ≤ reachBytes := by
  obtain ⟨s, rfl, hx, _⟩ := DataW.trod_string he hf
  rw [hx] at hz
  refine ⟨bs s, ?_, sz_str hz⟩
  show [Value.string s] = [.string (mk (bs s))]
  rw [mk_bs]
theorem in_bytes {t : TypeId} (ht : P.underlying t = some (.slice 5)) (he : P.underlying 5 = some (.int .u8)) (hc : P.cellsOf 5 = 1) (hb : P.bytesOf 5 = 1) {fuel : Nat} {v : Value} {y : DataW H × List MemPlace}
    (hf : DataW.trod enc P w 0 (fun _ => true) true fuel t [v] = some y) (hz : Sz P t y.1) : ∃ a n c l, v = .slice a n c ∧ Rd byteE w a n c l ∧ c ≤ reachBytes := by
  obtain ⟨a, n, c, R, h1, h2, _, h4⟩ := open_elems (E := byteE) (G := fun _ => True) ht hc (fun n cs x hx _ _ => el_byte he hx) hf hz
  have e : P.bytesOf byteE.e = 1 := hb
  rw [e] at h4
  exact ⟨a, n, c, R, h1, h2, by omega⟩
/-- texts, none too long -/
def RdT (w : World) (a : Option Addr) (n c : Nat) (l : List (List UInt8)) : Prop := Rd strE w a n c l ∧ (∀ s ∈ l, s.length ≤ reachBytes) ∧ n * 16 ≤ reachBytes
theorem in_texts {t : TypeId} (ht : P.underlying t = some (.slice 9)) (he : P.underlying 9 = some .string) (hc : P.cellsOf 9 = 1) (hb : P.bytesOf 9 = 16) {fuel : Nat} {v : Value} {y : DataW H × List MemPlace}
    (hf : DataW.trod enc P w 0 (fun _ => true) true fuel t [v] = some y) (hz : Sz P t y.1) : ∃ a n c l, v = .slice a n c ∧ RdT w a n c l := by
  obtain ⟨a, n, c, R, h1, h2, h3, h4⟩ := open_elems (E := strE) (G := fun l => l.length ≤ reachBytes) ht hc (fun n cs x hx hz _ => el_str he hx hz) hf hz
  have e : P.bytesOf strE.e = 16 := hb
  rw [e] at h4
  exact ⟨a, n, c, R, h1, h2, h3, Nat.le_trans (Nat.mul_le_mul_right 16 h2.cap) h4⟩
end
end Go.Proofs.YtojdjhicjhhblaaDoor
