/- Entries that came in, and how much they hold. -/
import Derived.Test.YtojdjhicjhhblaaDoorOpenP
import Derived.Test.YtojdjhicjhhblaaDoorJnC
import Derived.Test.YtojdjhicjhhblaaDoorRows
namespace Go.Proofs.YtojdjhicjhhblaaDoor
open Go Go.ChangeShapes Go.WideShapes Go.RowKit Go.Deep
section
variable {H : Type}
theorem bulk_pos : ∀ (d : DataW H), 1 ≤ Rows.uptoBulk d
  | .lit (.string b) => by simp [Rows.uptoBulk]
  | .lit (.int _ _) => by simp [Rows.uptoBulk]
  | .lit (.bool _) => by simp [Rows.uptoBulk]
  | .lit (.float _ _) => by simp [Rows.uptoBulk]
  | .lit .nil => by simp [Rows.uptoBulk]
  | .nil => by simp [Rows.uptoBulk]
  | .ptr d => by simp [Rows.uptoBulk]
  | .slice a b => by simp [Rows.uptoBulk]
  | .agg a => by simp [Rows.uptoBulk]
  | .iface _ d => by simp [Rows.uptoBulk]
  | .map e => by simp [Rows.uptoBulk]
  | .held _ => by simp [Rows.uptoBulk]
theorem bulk_len : ∀ (l : List (DataW H)), l.length ≤ Rows.uptoBulkAll l
  | [] => Nat.zero_le _
  | d :: r => by
    have h1 := bulk_pos d
    have h2 := bulk_len r
    simp only [Rows.uptoBulkAll, List.length_cons]
    omega
theorem bulk_mem : ∀ {l : List (DataW H)} {i : Nat} {d : DataW H}, l[i]? = some d → Rows.uptoBulk d ≤ Rows.uptoBulkAll l
  | [], _, _, h => by simp at h
  | e :: r, 0, d, h => by
    simp only [List.getElem?_cons_zero, Option.some.injEq] at h
    subst h
    simp only [Rows.uptoBulkAll]
    omega
  | e :: r, i + 1, d, h => by
    have := bulk_mem (l := r) (i := i) (d := d) (by simpa using h)
    simp only [Rows.uptoBulkAll]
    omega
variable {enc : TypeId × Value → H} {P : Program} {w : World}
theorem open_partsB {t : TypeId} {L : List (TypeId × Nat × Nat)} (hL : partsOf P t = some L) {fuel : Nat} {cs : List Value} {x : DataW H × List MemPlace} (hf : DataW.trod enc P w 0 (fun _ => true) true fuel t cs = some x) (hz : Sz P t x.1) :
    ∃ n, cs.length = P.cellsOf t ∧ ∀ (i : Nat) (p : TypeId × Nat × Nat), L[i]? = some p → ∃ y, DataW.trod enc P w 0 (fun _ => true) true n p.1 ((cs.drop p.2.1).take p.2.2) = some y ∧ Sz P p.1 y.1 ∧ Rows.uptoBulk y.1 ≤ Rows.uptoBulk x.1 := by
  unfold partsOf at hL
  split at hL
  · rename_i fs hfs
    cases hL
    obtain ⟨xs, n, _, hx, hlen, hxs, hg⟩ := DataW.trod_struct hfs hf
    refine ⟨n, hlen, fun i p hp => ?_⟩
    simp only [List.getElem?_map, Option.map_eq_some_iff, Array.getElem?_toList] at hp
    obtain ⟨f, hf1, rfl⟩ := hp
    have h1 := hg i f hf1
    have hlt : i < xs.length := by
      rw [hxs]; exact (Array.getElem?_eq_some_iff.1 hf1).1
    refine ⟨xs[i], by rw [h1, List.getElem?_eq_getElem hlt], ?_, ?_⟩
    · rw [hx] at hz
      exact sz_part hfs hz hf1 (by simp [hlt])
    · rw [hx]
      have := bulk_mem (l := xs.map (·.1)) (i := i) (d := xs[i].1) (by simp [hlt])
      simp only [Rows.uptoBulk]
      omega
  · cases hL
theorem sum_le {f g : Nat → Nat} : ∀ (n : Nat), (∀ i, i < n → f i ≤ g i) → ((List.range n).map f).sum ≤ ((List.range n).map g).sum := by
  intro n
  induction n with
  | zero => intro _; simp
  | succ n ih =>
    intro h
    rw [List.range_succ, List.map_append, List.map_append, List.sum_append, List.sum_append]
    have h1 := ih (fun i hi => h i (by omega))
    have h2 := h n (by omega)
    simp
    omega
theorem bulk_sum (l : List (DataW H)) : Rows.uptoBulkAll l = (l.map Rows.uptoBulk).sum := by
  induction l with
  | nil => rfl
  | cons d r ih => simp only [Rows.uptoBulkAll, List.map_cons, List.sum_cons, ih]
/-- a slice whose elements open, and how much they hold -/
theorem open_sum {α β : Type} [Inhabited β] {E : Enc α} {G : α → β → Prop} {f : β → Nat} {t : TypeId} (ht : P.underlying t = some (.slice E.e)) (hk : P.cellsOf E.e = E.k)
    (hel : ∀ (n : Nat) (cs : List Value) (x : DataW H × List MemPlace), DataW.trod enc P w 0 (fun _ => true) true n E.e cs = some x → Sz P E.e x.1 → cs.length = E.k → ∃ (a : α) (b : β), cs = E.f a ∧ G a b ∧ f b ≤ Rows.uptoBulk x.1)
    {fuel : Nat} {v : Value} {y : DataW H × List MemPlace} (hf : DataW.trod enc P w 0 (fun _ => true) true fuel t [v] = some y) (hz : Sz P t y.1) :
    ∃ a n c R, ∃ Q : List β, v = .slice a n c ∧ Rd E w a n c R ∧ R.length = Q.length ∧ (∀ (j : Nat) (p : α) (X : β), R[j]? = some p → Q[j]? = some X → G p X) ∧ (Q.map f).sum + 1 ≤ Rows.uptoBulk y.1 := by
  rcases Go.Deep.open_slice ht hf with ⟨hcs, hy⟩ | ⟨x, len, cap, m, n, D, Pl, hcs, _, hl, hm, hmm, hx, hi⟩
  · simp at hcs
    refine ⟨none, 0, 0, [], [], hcs, Rd.nil _ _, rfl, fun j p X h => by simp at h, ?_⟩
    have := bulk_pos y.1
    simp
    omega
  · simp at hcs
    have hm' : m = cap := by simpa using hmm
    rw [hx] at hz
    have each : ∀ i, i < cap → ∃ q : α × β, (∀ j u, (E.f q.1)[j]? = some u → w.cell? (x.add (i * E.k + j)) = some u) ∧ G q.1 q.2 ∧ (i < len → f q.2 ≤ Rows.uptoBulk (D i)) := by
      intro i hic
      obtain ⟨cs', hc, ht'⟩ := hi i (by omega)
      rw [hk] at hc
      obtain ⟨_, hcl, hat⟩ := World.cells?_some hc
      have hmem : D i ∈ (List.range len).map D ∨ D i ∈ (List.range (m - len)).map fun j => D (len + j) := by
        by_cases h : i < len
        · exact .inl (List.mem_map.2 ⟨i, List.mem_range.2 h, rfl⟩)
        · exact .inr (List.mem_map.2 ⟨i - len, List.mem_range.2 (by omega), by rw [show len + (i - len) = i by omega]⟩)
      obtain ⟨q, b, e, hG, hfb⟩ := hel n cs' _ ht' (sz_elem ht hz hmem) hcl
      refine ⟨(q, b), fun j u hj => ?_, hG, fun _ => hfb⟩
      have hj3 : j < E.k := by
        have := (List.getElem?_eq_some_iff.1 hj).1
        rwa [E.len] at this
      rw [← Go.Deep.add_add, hat j hj3, e]
      exact hj
    haveI : Inhabited (α × β) := ⟨(E.z, default)⟩
    obtain ⟨q, hq⟩ := choose_lt each
    refine ⟨_, len, cap, (List.range len).map (fun i => (q i).1), (List.range len).map (fun i => (q i).2), hcs, ⟨by simp, hl, hm, fun j hj i hik => ?_⟩, by simp, fun j p X h1 h2 => ?_, ?_⟩
    · have hj' : j < len := by simpa using hj
      obtain ⟨u0, hu0⟩ := E.get_some (q 0).1 0 E.pos
      obtain ⟨b, o, rfl⟩ := spot_none (by simpa [Addr.add] using (hq 0 (by omega)).1 0 u0 hu0)
      refine ⟨b, o, rfl, ?_⟩
      obtain ⟨u1, hu1⟩ := E.get_some (q j).1 i hik
      have h1 := (hq j (by omega)).1 i u1 hu1
      rw [Addr.add_lit] at h1
      rw [h1]
      simp only [List.getElem_map, List.getElem_range]
      exact hu1.symm
    · have hj : j < len := by
        rcases Nat.lt_or_ge j len with h | h
        · exact h
        · rw [List.getElem?_eq_none (by simpa using h)] at h1; cases h1
      simp only [List.getElem?_map, List.getElem?_range hj, Option.map_some, Option.some.injEq] at h1 h2
      subst h1 h2
      exact (hq j (by omega)).2.1
    · rw [hx]
      have e1 : Rows.uptoBulk (DataW.slice ((List.range len).map D) ((List.range (m - len)).map fun j => D (len + j))) = Rows.uptoBulkAll ((List.range len).map D) + Rows.uptoBulkAll ((List.range (m - len)).map fun j => D (len + j)) + 1 := by simp only [Rows.uptoBulk]
      rw [e1, bulk_sum, List.map_map, List.map_map]
      have := sum_le (f := fun i => f (q i).2) (g := fun i => Rows.uptoBulk (D i)) len (fun i hi => (hq i (by omega)).2.2 hi)
      have e3 : (List.map (f ∘ fun i => (q i).2) (List.range len)) = (List.range len).map (fun i => f (q i).2) := rfl
      have e4 : (List.map (Rows.uptoBulk ∘ D) (List.range len)) = (List.range len).map (fun i => Rows.uptoBulk (D i)) := rfl
      rw [e3, e4]
      omega
end
section
variable {H : Type} {enc : TypeId × Value → H} {w : World}
instance : Inhabited Ent := ⟨⟨0, false, []⟩⟩
def wsum (l : List Trm) : Nat := (l.map fun w => w.1.length + 1).sum
def esum (L : List Ent) : Nat := (L.map fun e => wsum e.words + 1).sum
set_option maxRecDepth 100000 in
theorem tr_el {fuel : Nat} {cs : List Value} {x : DataW H × List MemPlace} (hf : DataW.trod enc Tryd.prog w 0 (fun _ => true) true fuel 44 cs = some x) (hz : Sz Tryd.prog 44 x.1) (hl : cs.length = 2) : ∃ (q : Trm) (b : Trm), cs = trE.f q ∧ q = b ∧ b.1.length + 1 ≤ Rows.uptoBulk x.1 := by
  obtain ⟨m, _, hg⟩ := open_partsB (L := [(9, 0, 1), (4, 1, 1)]) (by kernel_rfl) hf hz
  match cs, hl with
  | [c0, c1], _ =>
    obtain ⟨y0, g0, z0, b0⟩ := hg 0 _ rfl
    obtain ⟨y1, g1, z1, b1⟩ := hg 1 _ rfl
    obtain ⟨u0, e0, h0, _⟩ := DataW.trod_string Tryd.underlying9 g0
    obtain ⟨u1, e1, _⟩ := DataW.trod_bool Tryd.underlying4 g1
    simp at e0 e1
    subst e0 e1
    refine ⟨(bs u0, u1), _, ?_, rfl, ?_⟩
    · show [Value.string u0, Value.bool u1] = [.string (mk (bs u0)), .bool u1]
      rw [mk_bs]
    · rw [h0] at b0
      have e : (bs u0).length = u0.size := by show u0.data.toList.length = _; rw [Array.length_toList]; rfl
      show (bs u0).length + 1 ≤ _
      rw [e]
      simpa [Rows.uptoBulk] using b0
set_option maxRecDepth 100000 in
theorem en_el {fuel : Nat} {cs : List Value} {x : DataW H × List MemPlace} (hf : DataW.trod enc Tryd.prog w 0 (fun _ => true) true fuel 34 cs = some x) (hz : Sz Tryd.prog 34 x.1) (hl : cs.length = 3) :
    ∃ (q : ED) (b : Ent), cs = enE.f q ∧ (q.line = b.line ∧ q.blank = b.blank ∧ Rd trE w q.wa q.wn q.wc b.words) ∧ wsum b.words + 1 ≤ Rows.uptoBulk x.1 := by
  obtain ⟨m, _, hg⟩ := open_partsB (L := [(3, 0, 1), (4, 1, 1), (32, 2, 1)]) (by kernel_rfl) hf hz
  match cs, hl with
  | [c0, c1, c2], _ =>
    obtain ⟨y0, g0, z0, b0⟩ := hg 0 _ rfl
    obtain ⟨y1, g1, z1, b1⟩ := hg 1 _ rfl
    obtain ⟨y2, g2, z2, b2⟩ := hg 2 _ rfl
    obtain ⟨u0, e0, h0, _⟩ := DataW.trod_int Tryd.underlying3 g0
    obtain ⟨u1, e1, _⟩ := DataW.trod_bool Tryd.underlying4 g1
    obtain ⟨a, n, c, R, Q, e2, h2, h3, h4, h5⟩ := open_sum (E := trE) (G := fun a b => a = b) (f := fun b : Trm => b.1.length + 1) (t := 32) (by kernel_rfl) (by kernel_rfl) (fun n cs x hx hz hl => tr_el hx hz hl) (v := c2) (by simpa using g2) z2
    have hRQ : R = Q := List.ext_getElem? fun j => by
      rcases Nat.lt_or_ge j R.length with hj | hj
      · have e1 := List.getElem?_eq_getElem hj
        have e2 := List.getElem?_eq_getElem (l := Q) (i := j) (by omega)
        rw [e1, e2, h4 j _ _ e1 e2]
      · rw [List.getElem?_eq_none hj, List.getElem?_eq_none (by omega)]
    subst hRQ
    simp at e0 e1
    subst e0 e1 e2
    refine ⟨⟨u0, u1, a, n, c⟩, ⟨u0, u1, R⟩, rfl, ⟨rfl, rfl, h2⟩, ?_⟩
    · show wsum R + 1 ≤ _
      unfold wsum
      omega
set_option maxRecDepth 100000 in
theorem in_ents {fuel : Nat} {v : Value} {y : DataW H × List MemPlace} (hf : DataW.trod enc Tryd.prog w 0 (fun _ => true) true fuel 22 [v] = some y) (hz : Sz Tryd.prog 22 y.1) :
    ∃ a n c L, v = .slice a n c ∧ RdEn w a n c L ∧ esum L + 1 ≤ Rows.uptoBulk y.1 := by
  obtain ⟨a, n, c, R, Q, e2, h2, h3, h4, h5⟩ := open_sum (E := enE) (G := fun (q : ED) (b : Ent) => q.line = b.line ∧ q.blank = b.blank ∧ Rd trE w q.wa q.wn q.wc b.words) (f := fun b : Ent => wsum b.words + 1) (t := 22) (by kernel_rfl) (by kernel_rfl) (fun n cs x hx hz hl => en_el hx hz hl) hf hz
  exact ⟨a, n, c, Q, e2, ⟨R, h2, h3, fun j d e hd he => by have := h4 j d e hd he; exact ⟨this.1, this.2.1, this.2.2⟩⟩, h5⟩
end
end Go.Proofs.YtojdjhicjhhblaaDoor
