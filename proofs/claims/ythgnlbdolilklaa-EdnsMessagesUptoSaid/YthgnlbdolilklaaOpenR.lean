/- How what is said, and a record, that came in are opened. -/
import Derived.Test.YthgnlbdolilklaaOpenP
import Derived.Test.YthgnlbdolilklaaEdD
namespace Go.Proofs.Ythgnlbdolilklaa
open Go Go.ChangeShapes Go.WideShapes Go.RowKit Go.Deep
abbrev Nm := List (List UInt8)
/-- names as elements -/
def slN : Enc (Option Addr × Nat × Nat) := ⟨26, 1, fun p => [.slice p.1 p.2.1 p.2.2], (none, 0, 0), fun _ => rfl, fun x v hv => by simp at hv; subst hv; rfl, by decide⟩
/-- numbers of 32 bits -/
def u32E : Enc Nat := ⟨30, 1, fun n => [.int .u32 n], 0, fun _ => rfl, fun x v hv => by simp at hv; subst hv; rfl, by decide⟩
/-- a slice of names reads as these -/
def RdN (w : World) (a : Option Addr) (n c : Nat) (XS : List Nm) : Prop :=
  ∃ ps : List (Option Addr × Nat × Nat), Rd slN w a n c ps ∧ ps.length = XS.length ∧ n * 24 ≤ reachBytes ∧ ∀ (j : Nat) (p : Option Addr × Nat × Nat) (X : Nm), ps[j]? = some p → XS[j]? = some X → RdT w p.1 p.2.1 p.2.2 X
theorem RdT.ext {w w' : World} {a : Option Addr} {n c : Nat} {l : Nm} (h : RdT w a n c l) (hb : Below w.heap.size w w') : RdT w' a n c l := ⟨h.1.ext hb, h.2⟩
theorem RdN.ext {w w' : World} {a : Option Addr} {n c : Nat} {XS : List Nm} (h : RdN w a n c XS) (hb : Below w.heap.size w w') : RdN w' a n c XS := by
  obtain ⟨ps, h1, h2, h4, h3⟩ := h
  exact ⟨ps, h1.ext hb, h2, h4, fun j p X hp hX => (h3 j p X hp hX).ext hb⟩
theorem RdN.len {w : World} {a : Option Addr} {n c : Nat} {XS : List Nm} (h : RdN w a n c XS) : XS.length = n := by
  obtain ⟨ps, h1, h2, _⟩ := h
  rw [← h2, h1.len]
/-- a record's slices and numbers -/
structure RD where
  oa : Option Addr
  on : Nat
  oc : Nat
  ty : Nat
  cl : Nat
  ttl : Nat
  ma : Option Addr
  mn : Nat
  mc : Nat
  ua : Option Addr
  un : Nat
  uc : Nat
  xa : Option Addr
  xn : Nat
  xc : Nat
  ra : Option Addr
  rn : Nat
  rc : Nat
def RD.zero : RD := ⟨none, 0, 0, 0, 0, 0, none, 0, 0, none, 0, 0, none, 0, 0, none, 0, 0⟩
def RD.cells (q : RD) : List Value := rC (.slice q.oa q.on q.oc) q.ty q.cl q.ttl (.slice q.ma q.mn q.mc) (.slice q.ua q.un q.uc) (.slice q.xa q.xn q.xc) (.slice q.ra q.rn q.rc)
def RD.val (q : RD) : Value := rV (.slice q.oa q.on q.oc) q.ty q.cl q.ttl (.slice q.ma q.mn q.mc) (.slice q.ua q.un q.uc) (.slice q.xa q.xn q.xc) (.slice q.ra q.rn q.rc)
def recE : Enc RD := ⟨37, 8, RD.cells, RD.zero, fun _ => rfl, fun x v hv => by simp [RD.cells, rC] at hv; rcases hv with rfl | rfl | rfl | rfl | rfl | rfl | rfl | rfl <;> rfl, by decide⟩
/-- a record's lists -/
structure RL where
  ow : Nm
  nm : List Nm
  nu : List Nat
  tx : Nm
  raw : List UInt8
/-- a record's slices read as its lists -/
structure RecR (w : World) (q : RD) (L : RL) : Prop where
  ow : RdT w q.oa q.on q.oc L.ow
  nm : RdN w q.ma q.mn q.mc L.nm
  nu : Rd u32E w q.ua q.un q.uc L.nu
  tx : RdT w q.xa q.xn q.xc L.tx
  raw : Rd byteE w q.ra q.rn q.rc L.raw
  cl : q.cl < 65536
  ty : q.ty < 65536
  ttl : q.ttl < 4294967296
  nus : ∀ n ∈ L.nu, n < 4294967296
  znu : q.un * 4 ≤ reachBytes
  zraw : q.rn ≤ reachBytes
theorem RecR.ext {w w' : World} {q : RD} {L : RL} (h : RecR w q L) (hb : Below w.heap.size w w') : RecR w' q L :=
  ⟨h.ow.ext hb, h.nm.ext hb, h.nu.ext hb, h.tx.ext hb, h.raw.ext hb, h.cl, h.ty, h.ttl, h.nus, h.znu, h.zraw⟩
theorem RecR.small {w : World} {q : RD} {L : RL} (h : RecR w q L) : q.on ≤ 1152921504606846976 ∧ q.mn ≤ 1152921504606846976 ∧ q.un ≤ 1152921504606846976 ∧ q.xn ≤ 1152921504606846976 ∧ q.rn ≤ 1152921504606846976 := by
  have h2 := h.ow.2.2
  obtain ⟨ps, _, _, h4, _⟩ := h.nm
  have h6 := h.znu
  have h8 := h.tx.2.2
  have h10 := h.zraw
  unfold reachBytes at *
  omega
/-- a record of nothing but bytes -/
theorem RecR.bare {w : World} {q : RD} {L : RL} (h : RecR w q L) {a : Option Addr} {n c : Nat} (hr : Rd byteE w a n c L.raw) (h0 : q.on = 0) (h1 : q.mn = 0) (h2 : q.un = 0) (h3 : q.xn = 0) {ty : Nat} (hty : ty < 65536) :
    RecR w ⟨none, 0, 0, ty, q.cl, q.ttl, none, 0, 0, none, 0, 0, none, 0, 0, a, n, c⟩ L := by
  obtain ⟨ow, nm, nu, tx, raw⟩ := L
  have e0 : ow = [] := List.eq_nil_of_length_eq_zero (by rw [h.ow.1.len]; exact h0)
  have e1 : nm = [] := List.eq_nil_of_length_eq_zero (by rw [h.nm.len]; exact h1)
  have e2 : nu = [] := List.eq_nil_of_length_eq_zero (by rw [h.nu.len]; exact h2)
  have e3 : tx = [] := List.eq_nil_of_length_eq_zero (by rw [h.tx.1.len]; exact h3)
  subst e0 e1 e2 e3
  have nt : RdT w none 0 0 [] := ⟨Rd.nil _ _, fun s hs => (by cases hs), by decide⟩
  refine ⟨nt, ⟨[], Rd.nil _ _, rfl, by dsimp only; decide, fun j p X hp => by simp at hp⟩, Rd.nil _ _, nt, hr, h.cl, hty, h.ttl, fun n hn => (by cases hn), by dsimp only; decide, ?_⟩
  have := h.zraw
  have e := hr.len
  have e2 := h.raw.len
  dsimp only at *
  omega
section
variable {H : Type} {enc : TypeId × Value → H} {w : World}
theorem name_el {n : Nat} {cs : List Value} {x : DataW H × List MemPlace} (hf : DataW.trod enc Try.prog w 0 (fun _ => true) true n 26 cs = some x) (hz : Sz Try.prog 26 x.1) (hl : cs.length = 1) :
    ∃ p : Option Addr × Nat × Nat, cs = slN.f p ∧ ∃ l, RdT w p.1 p.2.1 p.2.2 l := by
  match cs, hl with
  | [v], _ =>
    obtain ⟨a, n, c, l, rfl, h⟩ := in_texts (t := 26) (by kernel_rfl) Try.underlying9 (by kernel_rfl) (by kernel_rfl) hf hz
    exact ⟨(a, n, c), rfl, l, h⟩
theorem in_names {fuel : Nat} {v : Value} {y : DataW H × List MemPlace} (hf : DataW.trod enc Try.prog w 0 (fun _ => true) true fuel 31 [v] = some y) (hz : Sz Try.prog 31 y.1) : ∃ a n c XS, v = .slice a n c ∧ RdN w a n c XS := by
  obtain ⟨a, n, c, R, h1, h2, h3, h4⟩ := open_elems (E := slN) (G := fun p => ∃ l, RdT w p.1 p.2.1 p.2.2 l) (t := 31) (by kernel_rfl) (by kernel_rfl) (fun n cs x hx hz hl => name_el hx hz hl) hf hz
  obtain ⟨XS, h5, h6⟩ := lists_of R h3
  have e : Try.prog.bytesOf slN.e = 24 := by kernel_rfl
  rw [e] at h4
  exact ⟨a, n, c, XS, h1, R, h2, h5, Nat.le_trans (Nat.mul_le_mul_right 24 h2.cap) h4, h6⟩
set_option maxRecDepth 100000 in
theorem u32_el {n : Nat} {cs : List Value} {x : DataW H × List MemPlace} (hf : DataW.trod enc Try.prog w 0 (fun _ => true) true n 30 cs = some x) : ∃ a : Nat, cs = u32E.f a ∧ a < 4294967296 := by
  obtain ⟨u, rfl, _, hw⟩ := DataW.trod_int (by kernel_rfl : Try.prog.underlying 30 = some (.int .u32)) hf
  have hr := wf_u32 hw
  refine ⟨u.toNat, ?_, by omega⟩
  show [Value.int .u32 u] = [.int .u32 ((u.toNat : Nat) : Int)]
  congr 2
  omega
set_option maxRecDepth 100000 in
theorem in_nums {fuel : Nat} {v : Value} {y : DataW H × List MemPlace} (hf : DataW.trod enc Try.prog w 0 (fun _ => true) true fuel 32 [v] = some y) (hz : Sz Try.prog 32 y.1) : ∃ a n c R, v = .slice a n c ∧ Rd u32E w a n c R ∧ (∀ n ∈ R, n < 4294967296) ∧ c * 4 ≤ reachBytes := by
  obtain ⟨a, n, c, R, h1, h2, h3, h4⟩ := open_elems (E := u32E) (G := fun p => p < 4294967296) (t := 32) (by kernel_rfl) (by kernel_rfl) (fun n cs x hx hz hl => u32_el hx) hf hz
  have e : Try.prog.bytesOf u32E.e = 4 := by kernel_rfl
  rw [e] at h4
  exact ⟨a, n, c, R, h1, h2, h3, h4⟩
theorem in_u16 {t : TypeId} (ht : Try.prog.underlying t = some (.int .u16)) {fuel : Nat} {v : Value} {y : DataW H × List MemPlace} (hf : DataW.trod enc Try.prog w 0 (fun _ => true) true fuel t [v] = some y) : ∃ n : Nat, v = .int .u16 n ∧ n < 65536 := by
  obtain ⟨u, e, _, hw⟩ := DataW.trod_int ht hf
  simp at e
  subst e
  have hr := wf_u16 hw
  exact ⟨u.toNat, by rw [Int.toNat_of_nonneg hr.1], (Int.toNat_lt hr.1).2 hr.2⟩
set_option maxRecDepth 100000 in
theorem opt_el {n : Nat} {cs : List Value} {x : DataW H × List MemPlace} (hf : DataW.trod enc Try.prog w 0 (fun _ => true) true n 53 cs = some x) (hz : Sz Try.prog 53 x.1) (hl : cs.length = 2) :
    ∃ p : Nat × (Option Addr × Nat × Nat), cs = opE.f p ∧ ∃ o : Opt, (p.1 = o.1 ∧ Rd byteE w p.2.1 p.2.2.1 p.2.2.2 o.2) ∧ o.1 < 65536 := by
  obtain ⟨m, _, hg⟩ := open_parts (L := [(27, 0, 1), (33, 1, 1)]) (by kernel_rfl) hf hz
  match cs, hl with
  | [c0, c1], _ =>
    obtain ⟨y0, g0, _⟩ := hg 0 _ rfl
    obtain ⟨y1, g1, z1⟩ := hg 1 _ rfl
    obtain ⟨k, e0, hk⟩ := in_u16 (t := 27) (by kernel_rfl) (v := c0) (by simpa using g0)
    obtain ⟨a, n, c, l, e1, h1, _⟩ := in_bytes (t := 33) (by kernel_rfl) Try.underlying5 (by kernel_rfl) (by kernel_rfl) (v := c1) (by simpa using g1) z1
    subst e0 e1
    exact ⟨(k, a, n, c), rfl, (k, l), ⟨rfl, h1⟩, hk⟩
theorem in_opts {fuel : Nat} {v : Value} {y : DataW H × List MemPlace} (hf : DataW.trod enc Try.prog w 0 (fun _ => true) true fuel 22 [v] = some y) (hz : Sz Try.prog 22 y.1) : ∃ a n c O, v = .slice a n c ∧ RdO w a n c O ∧ ∀ o ∈ O, o.1 < 65536 := by
  obtain ⟨a, n, c, R, h1, h2, h3, h4⟩ := open_elems (E := opE) (G := fun p => ∃ o : Opt, (p.1 = o.1 ∧ Rd byteE w p.2.1 p.2.2.1 p.2.2.2 o.2) ∧ o.1 < 65536) (t := 22) (by kernel_rfl) (by kernel_rfl) (fun n cs x hx hz hl => opt_el hx hz hl) hf hz
  obtain ⟨XS, h5, h6⟩ := lists_of R h3
  refine ⟨a, n, c, XS, h1, ⟨R, h2, h5, fun j p o hp ho => (h6 j p o hp ho).1⟩, fun o ho => ?_⟩
  obtain ⟨j, hj, rfl⟩ := List.getElem_of_mem ho
  have hj' : j < R.length := by rw [h5]; exact hj
  exact (h6 j R[j] XS[j] (List.getElem?_eq_getElem hj') (List.getElem?_eq_getElem hj)).2
set_option maxRecDepth 100000 in
theorem open_edns {v : Value} {d : DataW H} {p : List MemPlace} {r : Reach} {b0 : Nat} (hv : Value.okWide Try.prog w r b0 24 v) (h : DataW.Trod enc Try.prog w 0 (fun _ => true) true 24 v d p) (hz : Sz Try.prog 24 d) :
    ∃ (sz hi ver : Int) (b : Bool) (a : Option Addr) (n c : Nat) (O : List Opt), v = eV sz hi ver b (.slice a n c) ∧ RdO w a n c O ∧ ∀ o ∈ O, o.1 < 65536 := by
  obtain ⟨cs, rfl, hsz⟩ := okWide_struct Try.underlying24 hv
  obtain ⟨fuel, hf⟩ := h
  have h5 : Try.prog.cellsOf 24 = 5 := by kernel_rfl
  obtain ⟨l⟩ := cs
  obtain ⟨m, _, hg⟩ := open_parts (x := (d, p)) (L := [(3, 0, 1), (3, 1, 1), (3, 2, 1), (4, 3, 1), (22, 4, 1)]) (by kernel_rfl) hf hz
  simp only [Value.cells] at hg
  match l, (by have := hsz.trans h5; simpa using this : l.length = 5) with
  | [c0, c1, c2, c3, c4], _ =>
    obtain ⟨y0, g0, _⟩ := hg 0 _ rfl
    obtain ⟨y1, g1, _⟩ := hg 1 _ rfl
    obtain ⟨y2, g2, _⟩ := hg 2 _ rfl
    obtain ⟨y3, g3, _⟩ := hg 3 _ rfl
    obtain ⟨y4, g4, z4⟩ := hg 4 _ rfl
    obtain ⟨u0, e0, _⟩ := DataW.trod_int Try.underlying3 g0
    obtain ⟨u1, e1, _⟩ := DataW.trod_int Try.underlying3 g1
    obtain ⟨u2, e2, _⟩ := DataW.trod_int Try.underlying3 g2
    obtain ⟨u3, e3, _⟩ := DataW.trod_bool Try.underlying4 g3
    obtain ⟨a, n, c, O, e4, h4, h6⟩ := in_opts (v := c4) (by simpa using g4) z4
    simp at e0 e1 e2 e3
    subst e0 e1 e2 e3 e4
    exact ⟨u0, u1, u2, u3, a, n, c, O, rfl, h4, h6⟩
set_option maxRecDepth 100000 in
theorem rec_el {fuel : Nat} {cs : List Value} {x : DataW H × List MemPlace} (hf : DataW.trod enc Try.prog w 0 (fun _ => true) true fuel 37 cs = some x) (hz : Sz Try.prog 37 x.1) (hl : cs.length = 8) : ∃ q : RD, cs = recE.f q ∧ ∃ L, RecR w q L := by
  obtain ⟨m, _, hg⟩ := open_parts (L := [(26, 0, 1), (28, 1, 1), (29, 2, 1), (30, 3, 1), (35, 4, 4)]) (by kernel_rfl) hf hz
  match cs, hl with
  | [c0, c1, c2, c3, c4, c5, c6, c7], _ =>
    obtain ⟨y0, g0, z0⟩ := hg 0 _ rfl
    obtain ⟨y1, g1, _⟩ := hg 1 _ rfl
    obtain ⟨y2, g2, _⟩ := hg 2 _ rfl
    obtain ⟨y3, g3, _⟩ := hg 3 _ rfl
    obtain ⟨y4, g4, z4⟩ := hg 4 _ rfl
    obtain ⟨m2, _, hk⟩ := open_parts (L := [(31, 0, 1), (32, 1, 1), (25, 2, 1), (33, 3, 1)]) (by kernel_rfl) g4 z4
    obtain ⟨x0, k0, q0⟩ := hk 0 _ rfl
    obtain ⟨x1, k1, q1⟩ := hk 1 _ rfl
    obtain ⟨x2, k2, q2⟩ := hk 2 _ rfl
    obtain ⟨x3, k3, q3⟩ := hk 3 _ rfl
    obtain ⟨oa, on, oc, ow, e0, h0⟩ := in_texts (t := 26) (by kernel_rfl) Try.underlying9 (by kernel_rfl) (by kernel_rfl) (v := c0) (by simpa using g0) z0
    obtain ⟨ty, e1, h1⟩ := in_u16 (t := 28) (by kernel_rfl) (v := c1) (by simpa using g1)
    obtain ⟨cl, e2, h2⟩ := in_u16 (t := 29) (by kernel_rfl) (v := c2) (by simpa using g2)
    obtain ⟨ttl, e3, h3⟩ := u32_el (cs := [c3]) (by simpa using g3)
    obtain ⟨ma, mn, mc, nm, e4, h4⟩ := in_names (v := c4) (by simpa using k0) q0
    obtain ⟨ua, un, uc, nu, e5, h5, h5a, h5b⟩ := in_nums (v := c5) (by simpa using k1) q1
    obtain ⟨xa, xn, xc, tx, e6, h6⟩ := in_texts (t := 25) (by kernel_rfl) Try.underlying9 (by kernel_rfl) (by kernel_rfl) (v := c6) (by simpa using k2) q2
    obtain ⟨ra, rn, rc, raw, e7, h7, h7a⟩ := in_bytes (t := 33) (by kernel_rfl) Try.underlying5 (by kernel_rfl) (by kernel_rfl) (v := c7) (by simpa using k3) q3
    simp only [u32E, List.cons.injEq, and_true] at e3
    subst e0 e1 e2 e3 e4 e5 e6 e7
    exact ⟨⟨oa, on, oc, ty, cl, ttl, ma, mn, mc, ua, un, uc, xa, xn, xc, ra, rn, rc⟩, rfl, ⟨ow, nm, nu, tx, raw⟩, h0, h4, h5, h6, h7, h2, h1, h3, h5a, Nat.le_trans (Nat.mul_le_mul_right 4 h5.cap) h5b, Nat.le_trans h7.cap h7a⟩
end
end Go.Proofs.Ythgnlbdolilklaa
