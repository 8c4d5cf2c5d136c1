/- How a message with its questions that came in is opened; printed by gen_openq.py. -/
import Derived.Test.YtbpkhnnfdjihdaaOpenH
import Derived.Test.YtbpkhnnfdjihdaaHdAn
import Derived.Deep.Slices
import Derived.Deep.Fields
import Derived.ChangeSame
namespace Go.Proofs.Ytbpkhnnfdjihdaa
open Go.Joins Go.ChangeShapes Go.WideShapes Go.RowKit Go.Deep
section
variable {H : Type} {P : Program}
/-- no part of a datum is too heavy -/
def Sz (P : Program) (t : TypeId) (d : DataW H) : Prop := ∀ n ∈ d.weights P t, n ≤ reachBytes
theorem sz_of {ts : List TypeId} {ds : List (DataW H)} (h : (DataW.weightsEach P ts ds).all (· ≤ reachBytes) = true) {j : Nat} {t : TypeId} {d : DataW H} (ht : ts[j]? = some t) (hd : ds[j]? = some d) : Sz P t d := fun n hn => by
  have := List.all_eq_true.1 h n (DataW.weights_mem_each ht hd n hn)
  simpa using this
theorem sz_part {t : TypeId} {fs : Array Field} {parts : List (DataW H)} (hs : P.underlying t = some (.struct fs)) (h : Sz P t (.agg parts)) {j : Nat} {f : Field} {d : DataW H} (hf : fs[j]? = some f) (hd : parts[j]? = some d) : Sz P f.type d := fun n hn => by
  refine h n ?_
  rw [DataW.weights, hs]
  exact DataW.weights_mem_each (ts := fs.toList.map (·.type)) (j := j) (by simp [hf]) hd n hn
theorem weights_mem_all {e : TypeId} : ∀ {ds : List (DataW H)} {d : DataW H}, d ∈ ds → ∀ n ∈ d.weights P e, n ∈ DataW.weightsAll P e ds
  | x :: r, d, h, n, hn => by
    rw [DataW.weightsAll, List.mem_append]
    rcases List.mem_cons.1 h with rfl | h
    · exact .inl hn
    · exact .inr (weights_mem_all h n hn)
theorem sz_elem {t e : TypeId} {elems spare : List (DataW H)} (hs : P.underlying t = some (.slice e)) (h : Sz P t (.slice elems spare)) {d : DataW H} (hd : d ∈ elems ∨ d ∈ spare) : Sz P e d := fun n hn => by
  refine h n ?_
  rw [DataW.weights, hs]
  refine List.mem_cons_of_mem _ ?_
  rw [List.mem_append]
  rcases hd with hd | hd
  · exact .inl (weights_mem_all hd n hn)
  · exact .inr (weights_mem_all hd n hn)
theorem sz_str {t : TypeId} {b : List UInt8} (h : Sz (H := H) P t (.lit (.string b))) : b.length ≤ reachBytes := h _ (by rw [DataW.weights]; exact List.mem_singleton.2 rfl)
end
/-- a question as it came in -/
structure QD where
  na : Option Addr
  nn : Nat
  nc : Nat
  t : Int
  k : Int
instance : Inhabited QD := ⟨⟨none, 0, 0, 0, 0⟩⟩
def qE : Enc QD := ⟨50, 3, fun q => [.slice q.na q.nn q.nc, .int .u16 q.t, .int .u16 q.k], ⟨none, 0, 0, 0, 0⟩, fun _ => rfl, fun x v hv => by simp at hv; rcases hv with rfl | rfl | rfl <;> rfl, by decide⟩
/-- a name as it came in -/
def Nmr (w : World) (a : Option Addr) (n c : Nat) (l : Nm) : Prop := Rd strE w a n c l ∧ ∀ s ∈ l, s.length ≤ 140737488355328
theorem Nmr.nmd {w : World} {a : Option Addr} {n c : Nat} {l : Nm} (h : Nmr w a n c l) (hn : n ≤ 130) : Nmd w a n c l := ⟨h.1, by omega, h.2⟩
section
variable {H : Type} {enc : TypeId × Value → H} {w : World}
theorem name_of {v : Value} {fuel : Nat} {y : DataW H × List MemPlace} (hf : DataW.trod enc Try.prog w 0 (fun _ => true) true fuel 46 [v] = some y) (hz : Sz Try.prog 46 y.1) : ∃ a n c l, v = .slice a n c ∧ Nmr w a n c l := by
  rcases open_strings (t := 46) (by kernel_rfl) Try.underlying9 (by kernel_rfl) hf with ⟨hcs, _⟩ | ⟨x, len, cap, ss, hcs, _, hl, hm, hzs, hx, hcell, hwz⟩
  · simp at hcs
    exact ⟨none, 0, 0, [], hcs, Rd.nil _ _, fun s hs => by cases hs⟩
  · simp at hcs
    have hz' : ss.length = cap := by simpa using hzs
    rw [hx] at hz
    have each : ∀ s ∈ ss, s.data.toList.length ≤ reachBytes := fun s hs => by
      have hmem : (.lit (.string s.data.toList) : DataW H) ∈ strs (H := H) (ss.take len) ∨ (.lit (.string s.data.toList) : DataW H) ∈ strs (H := H) (ss.drop len) := by
        have h2 : s ∈ ss.take len ++ ss.drop len := by rw [List.take_append_drop]; exact hs
        rcases List.mem_append.1 h2 with h2 | h2
        · exact .inl (by unfold strs; exact List.mem_map.2 ⟨s, h2, rfl⟩)
        · exact .inr (by unfold strs; exact List.mem_map.2 ⟨s, h2, rfl⟩)
      exact sz_str (t := 9) (sz_elem (e := 9) (by kernel_rfl) hz hmem)
    refine ⟨_, len, cap, _, hcs, rd_of (E := strE) rfl (g := fun i => bs (ss.getD i ByteArray.empty)) (f := fun l => .string (mk l)) (fun _ => rfl) (m := cap) hl hl hm (fun i hi => ?_), ?_⟩
    · rw [hcell i (by omega), mk_bs]
    · intro s hs
      simp only [List.mem_map, List.mem_range] at hs
      obtain ⟨j, hj, rfl⟩ := hs
      have hmem : ss.getD j ByteArray.empty ∈ ss := by
        rw [List.getD_eq_getElem?_getD, List.getElem?_eq_getElem (by omega : j < ss.length)]
        exact List.getElem_mem _
      have := each _ hmem
      unfold reachBytes at this
      have e : (bs (ss.getD j ByteArray.empty)).length = (ss.getD j ByteArray.empty).data.toList.length := rfl
      omega
theorem slice_of {t e : TypeId} {v : Value} {fuel : Nat} {y : DataW H × List MemPlace} (ht : Try.prog.underlying t = some (.slice e)) (hf : DataW.trod enc Try.prog w 0 (fun _ => true) true fuel t [v] = some y) : ∃ a n c, v = .slice a n c ∧ n ≤ maxLen := by
  rcases Go.Deep.open_slice ht hf with ⟨hcs, _⟩ | ⟨x, len, cap, m, n, D, Pl, hcs, _, hl, hm, _⟩
  · simp at hcs
    exact ⟨none, 0, 0, hcs, Nat.zero_le _⟩
  · simp at hcs
    exact ⟨_, len, cap, hcs, Nat.le_trans hl hm⟩
theorem fields3 {P : Program} {t : TypeId} {a0 a1 a2 : Nat} (h : fieldsOf P t = [a0, a1, a2]) : ∃ f0 f1 f2 : Field, P.underlying t = some (.struct #[f0, f1, f2]) ∧ f0.type = a0 ∧ f1.type = a1 ∧ f2.type = a2 := by
  unfold fieldsOf at h
  split at h
  · rename_i fs hfs
    obtain ⟨fl⟩ := fs
    match fl, h with
    | [f0, f1, f2], h =>
      simp at h
      exact ⟨f0, f1, f2, hfs, h⟩
  · cases h
/-- a question of its cells -/
theorem question_of {cs : List Value} {fuel : Nat} {x : DataW H × List MemPlace} (hf : DataW.trod enc Try.prog w 0 (fun _ => true) true fuel 50 cs = some x) (hz : Sz Try.prog 50 x.1) (hl : cs.length = 3) :
    ∃ q : QD, cs = qE.f q ∧ ∃ l, Nmr w q.na q.nn q.nc l := by
  obtain ⟨f0, f1, f2, he, t0, t1, t2⟩ := fields3 (P := Try.prog) (t := 50) (a0 := 46) (a1 := 47) (a2 := 48) (by kernel_rfl)
  have hone : oneCellFields Try.prog #[f0, f1, f2] = true := by
    have h : oneOf Try.prog 50 = true := by kernel_rfl
    unfold oneOf at h
    rw [he] at h
    exact h
  obtain ⟨xs, n, _, hx, _, hlen, hg⟩ := DataW.trod_struct he hf
  match cs, hl with
  | [c0, c1, c2], _ =>
    match xs, hlen with
    | [y0, y1, y2], _ =>
      obtain ⟨o0, k0⟩ := hone_of hone 0 f0 rfl
      obtain ⟨o1, k1⟩ := hone_of hone 1 f1 rfl
      obtain ⟨o2, k2⟩ := hone_of hone 2 f2 rfl
      have g0 := hg 0 f0 rfl
      have g1 := hg 1 f1 rfl
      have g2 := hg 2 f2 rfl
      rw [o0, k0] at g0
      rw [o1, k1] at g1
      rw [o2, k2] at g2
      simp at g0 g1 g2
      have hx1 : x.1 = .agg [y0.1, y1.1, y2.1] := by rw [hx]; rfl
      rw [hx1] at hz
      have z0 : Sz Try.prog f0.type y0.1 := sz_part he hz (j := 0) rfl rfl
      rw [t0] at g0 z0
      rw [t1] at g1
      rw [t2] at g2
      obtain ⟨a, n, c, l, rfl, hN⟩ := name_of g0 z0
      obtain ⟨u1, e1, _⟩ := DataW.trod_int (by kernel_rfl : Try.prog.underlying 47 = some (.int .u16)) g1
      obtain ⟨u2, e2, _⟩ := DataW.trod_int (by kernel_rfl : Try.prog.underlying 48 = some (.int .u16)) g2
      simp at e1 e2
      subst e1 e2
      exact ⟨⟨a, n, c, u1, u2⟩, rfl, l, hN⟩
theorem questions_of {v : Value} {fuel : Nat} {y : DataW H × List MemPlace} (hf : DataW.trod enc Try.prog w 0 (fun _ => true) true fuel 25 [v] = some y) (hz : Sz Try.prog 25 y.1) :
    ∃ a n c R, v = .slice a n c ∧ Rd qE w a n c R ∧ ∀ q ∈ R, ∃ l, Nmr w q.na q.nn q.nc l := by
  rcases Go.Deep.open_slice (t := 25) (e := 50) (by kernel_rfl) hf with ⟨hcs, _⟩ | ⟨x, len, cap, m, n, D, Pl, hcs, _, hl, hm, hmm, hx, hi⟩
  · simp at hcs
    exact ⟨none, 0, 0, [], hcs, Rd.nil _ _, fun q hq => by cases hq⟩
  · simp at hcs
    have hm' : m = cap := by simpa using hmm
    have h3 : Try.prog.cellsOf 50 = 3 := by kernel_rfl
    rw [hx] at hz
    have each : ∀ i, i < cap → ∃ q : QD, (∀ j u, (qE.f q)[j]? = some u → w.cell? (x.add (i * 3 + j)) = some u) ∧ ∃ l, Nmr w q.na q.nn q.nc l := by
      intro i hic
      obtain ⟨cs', hc, ht'⟩ := hi i (by omega)
      rw [h3] at hc
      obtain ⟨_, hcl, hat⟩ := World.cells?_some hc
      have hmem : D i ∈ (List.range len).map D ∨ D i ∈ (List.range (m - len)).map fun j => D (len + j) := by
        by_cases h : i < len
        · exact .inl (List.mem_map.2 ⟨i, List.mem_range.2 h, rfl⟩)
        · exact .inr (List.mem_map.2 ⟨i - len, List.mem_range.2 (by omega), by rw [show len + (i - len) = i by omega]⟩)
      obtain ⟨q, e, hN⟩ := question_of ht' (sz_elem (by kernel_rfl) hz hmem) hcl
      refine ⟨q, fun j u hj => ?_, hN⟩
      have hj3 : j < 3 := by
        have := (List.getElem?_eq_some_iff.1 hj).1
        exact this
      rw [← Go.Deep.add_add, hat j hj3, e]
      exact hj
    obtain ⟨q, hq⟩ := choose_lt each
    refine ⟨_, len, cap, (List.range len).map q, hcs, ⟨by simp, hl, hm, fun j hj i hik => ?_⟩, fun z hz => ?_⟩
    · have hj' : j < len := by simpa using hj
      obtain ⟨u0, hu0⟩ := qE.get_some (q 0) 0 (by decide)
      obtain ⟨b, o, rfl⟩ := spot_none (by simpa [Addr.add] using (hq 0 (by omega)).1 0 u0 hu0)
      refine ⟨b, o, rfl, ?_⟩
      obtain ⟨u1, hu1⟩ := qE.get_some (q j) i hik
      have h1 := (hq j (by omega)).1 i u1 hu1
      rw [Addr.add_lit] at h1
      have e : o + (j * qE.k + i) = o + (j * 3 + i) := rfl
      rw [e, h1]
      simp only [List.getElem_map, List.getElem_range]
      exact hu1.symm
    · simp only [List.mem_map, List.mem_range] at hz
      obtain ⟨j, hj, rfl⟩ := hz
      exact (hq j (by omega)).2
set_option maxRecDepth 100000 in
theorem open_msg {v : Value} {d : DataW H} {p : List MemPlace} {r : Reach} {b0 : Nat} (hv : Value.okWide Try.prog w r b0 28 v) (h : DataW.Trod enc Try.prog w 0 (fun _ => true) true 28 v d p) (hz : Sz Try.prog 28 d) :
    ∃ (id : Nat) (op rc : Int) (F : Nat → Bool) (a : Option Addr) (n c : Nat) (R : List QD) (a1 : Option Addr) (n1 c1 : Nat) (a2 : Option Addr) (n2 c2 : Nat) (a3 : Option Addr) (n3 c3 : Nat), id < 65536 ∧ v = mV id op rc F (.slice a n c) (.slice a1 n1 c1) (.slice a2 n2 c2) (.slice a3 n3 c3) ∧
      Rd qE w a n c R ∧ (∀ q ∈ R, ∃ l, Nmr w q.na q.nn q.nc l) ∧ n1 ≤ maxLen ∧ n2 ≤ maxLen ∧ n3 ≤ maxLen := by
  obtain ⟨id, op, rc, F, s0, s1, s2, s3, hid, rfl⟩ := open_head hv h
  obtain ⟨fuel, hf⟩ := h
  obtain ⟨f0, f1, f2, f3, f4, f5, f6, f7, f8, f9, f10, f11, f12, f13, he, t0, t1, t2, t3, t4, t5, t6, t7, t8, t9, t10, t11, t12, t13⟩ := fields14 (P := Try.prog) (t := 28) (a0 := 24) (a1 := 4) (a2 := 3) (a3 := 4) (a4 := 4) (a5 := 4) (a6 := 4) (a7 := 4) (a8 := 4) (a9 := 3) (a10 := 25) (a11 := 26) (a12 := 26) (a13 := 26) (by kernel_rfl)
  have hone : oneCellFields Try.prog #[f0, f1, f2, f3, f4, f5, f6, f7, f8, f9, f10, f11, f12, f13] = true := by
    have h : oneOf Try.prog 28 = true := by kernel_rfl
    unfold oneOf at h
    rw [he] at h
    exact h
  obtain ⟨xs, n, _, hx, _, hlen, hg⟩ := DataW.trod_struct he hf
  match xs, hlen with
  | [y0, y1, y2, y3, y4, y5, y6, y7, y8, y9, y10, y11, y12, y13], _ =>
    simp only [Prod.mk.injEq] at hx
    rw [hx.1] at hz
    obtain ⟨o10, k10⟩ := hone_of hone 10 f10 rfl
    obtain ⟨o11, k11⟩ := hone_of hone 11 f11 rfl
    obtain ⟨o12, k12⟩ := hone_of hone 12 f12 rfl
    obtain ⟨o13, k13⟩ := hone_of hone 13 f13 rfl
    have g10 := hg 10 f10 rfl
    have g11 := hg 11 f11 rfl
    have g12 := hg 12 f12 rfl
    have g13 := hg 13 f13 rfl
    rw [o10, k10] at g10
    rw [o11, k11] at g11
    rw [o12, k12] at g12
    rw [o13, k13] at g13
    have z10 : Sz Try.prog f10.type y10.1 := sz_part he hz (j := 10) rfl rfl
    rw [t10] at g10 z10
    rw [t11] at g11
    rw [t12] at g12
    rw [t13] at g13
    simp [mV, Value.cells] at g10 g11 g12 g13
    obtain ⟨a, n, c, R, rfl, hR, hN⟩ := questions_of g10 z10
    obtain ⟨a1, n1, c1, rfl, h1⟩ := slice_of (t := 26) (e := 83) (by kernel_rfl) g11
    obtain ⟨a2, n2, c2, rfl, h2⟩ := slice_of (t := 26) (e := 83) (by kernel_rfl) g12
    obtain ⟨a3, n3, c3, rfl, h3⟩ := slice_of (t := 26) (e := 83) (by kernel_rfl) g13
    exact ⟨id, op, rc, F, a, n, c, R, a1, n1, c1, a2, n2, c2, a3, n3, c3, hid, rfl, hR, hN, h1, h2, h3⟩
theorem open_question {v : Value} {d : DataW H} {p : List MemPlace} {r : Reach} {b0 : Nat} (hv : Value.okWide Try.prog w r b0 50 v) (h : DataW.Trod enc Try.prog w 0 (fun _ => true) true 50 v d p) (hz : Sz Try.prog 50 d) :
    ∃ q : QD, v = .agg (qE.f q).toArray ∧ ∃ l, Nmr w q.na q.nn q.nc l := by
  obtain ⟨f0, f1, f2, he, t0, t1, t2⟩ := fields3 (P := Try.prog) (t := 50) (a0 := 46) (a1 := 47) (a2 := 48) (by kernel_rfl)
  obtain ⟨cs, rfl, hsz⟩ := okWide_struct he hv
  obtain ⟨fuel, hf⟩ := h
  have h3 : Try.prog.cellsOf 50 = 3 := by kernel_rfl
  obtain ⟨l⟩ := cs
  obtain ⟨q, e, hN⟩ := question_of (x := (d, p)) hf hz (by have := hsz.trans h3; simpa [Value.cells] using this)
  refine ⟨q, ?_, hN⟩
  simp [Value.cells] at e
  rw [e]
end
end Go.Proofs.Ytbpkhnnfdjihdaa
