/- How a message that came in is opened, where the arguments' bulk is bounded. -/
import Derived.Test.YthgnlbdolilklaaSmM
import Derived.Test.YthgnlbdolilklaaRows
namespace Go.Proofs.Ythgnlbdolilklaa
open Go Go.ChangeShapes Go.WideShapes Go.RowKit Go.Deep
section
variable {H : Type}
theorem bulk_pos : ∀ (d : DataW H), 1 ≤ Rows.uptoBulk d
  | .lit (.string b) => by simp [Rows.uptoBulk]
  | .lit (.int _ _) => by simp [Rows.uptoBulk]
  | .lit (.bool _) => by simp [Rows.uptoBulk]
  | .lit (.float _ _) => by simp [Rows.uptoBulk]
  | .lit .nil => by simp [Rows.uptoBulk]
  | .nil => by simp [Rows.uptoBulk]
  | .ptr d => by simp [Rows.uptoBulk]
  | .slice a b => by simp [Rows.uptoBulk]
  | .agg a => by simp [Rows.uptoBulk]
  | .iface _ d => by simp [Rows.uptoBulk]
  | .map e => by simp [Rows.uptoBulk]
  | .held _ => by simp [Rows.uptoBulk]
theorem bulk_len : ∀ (l : List (DataW H)), l.length ≤ Rows.uptoBulkAll l
  | [] => Nat.zero_le _
  | d :: r => by
    have h1 := bulk_pos d
    have h2 := bulk_len r
    simp only [Rows.uptoBulkAll, List.length_cons]
    omega
theorem bulk_mem : ∀ {l : List (DataW H)} {i : Nat} {d : DataW H}, l[i]? = some d → Rows.uptoBulk d ≤ Rows.uptoBulkAll l
  | [], _, _, h => by simp at h
  | e :: r, 0, d, h => by
    simp only [List.getElem?_cons_zero, Option.some.injEq] at h
    subst h
    simp only [Rows.uptoBulkAll]
    omega
  | e :: r, i + 1, d, h => by
    have := bulk_mem (l := r) (i := i) (d := d) (by simpa using h)
    simp only [Rows.uptoBulkAll]
    omega
variable {enc : TypeId × Value → H} {P : Program} {w : World}
theorem open_partsB {t : TypeId} {L : List (TypeId × Nat × Nat)} (hL : partsOf P t = some L) {fuel : Nat} {cs : List Value} {x : DataW H × List MemPlace} (hf : DataW.trod enc P w 0 (fun _ => true) true fuel t cs = some x) (hz : Sz P t x.1) :
    ∃ n, cs.length = P.cellsOf t ∧ ∀ (i : Nat) (p : TypeId × Nat × Nat), L[i]? = some p → ∃ y, DataW.trod enc P w 0 (fun _ => true) true n p.1 ((cs.drop p.2.1).take p.2.2) = some y ∧ Sz P p.1 y.1 ∧ Rows.uptoBulk y.1 ≤ Rows.uptoBulk x.1 := by
  unfold partsOf at hL
  split at hL
  · rename_i fs hfs
    cases hL
    obtain ⟨xs, n, _, hx, hlen, hxs, hg⟩ := DataW.trod_struct hfs hf
    refine ⟨n, hlen, fun i p hp => ?_⟩
    simp only [List.getElem?_map, Option.map_eq_some_iff, Array.getElem?_toList] at hp
    obtain ⟨f, hf1, rfl⟩ := hp
    have h1 := hg i f hf1
    have hlt : i < xs.length := by
      rw [hxs]; exact (Array.getElem?_eq_some_iff.1 hf1).1
    refine ⟨xs[i], by rw [h1, List.getElem?_eq_getElem hlt], ?_, ?_⟩
    · rw [hx] at hz
      exact sz_part hfs hz hf1 (by simp [hlt])
    · rw [hx]
      have := bulk_mem (l := xs.map (·.1)) (i := i) (d := xs[i].1) (by simp [hlt])
      simp only [Rows.uptoBulk]
      omega
  · cases hL
theorem slice_bulk {e t : TypeId} (ht : P.underlying t = some (.slice e)) {fuel : Nat} {a : Option Addr} {n c : Nat} {y : DataW H × List MemPlace} (hf : DataW.trod enc P w 0 (fun _ => true) true fuel t [.slice a n c] = some y) : n ≤ Rows.uptoBulk y.1 := by
  rcases Go.Deep.open_slice ht hf with ⟨hcs, _⟩ | ⟨x, len, cap, m, n', D, Pl, hcs, _, hl, hm, hmm, hx, hi⟩
  · simp at hcs
    omega
  · simp at hcs
    obtain ⟨_, h1, h2⟩ := hcs
    have hm' : m = cap := by simpa using hmm
    rw [hx]
    have := bulk_len ((List.range len).map D)
    simp only [List.length_map, List.length_range] at this
    simp only [Rows.uptoBulk]
    omega
/-- records that came in -/
theorem in_recs {fuel : Nat} {v : Value} {y : DataW H × List MemPlace} (hf : DataW.trod enc Try.prog w 0 (fun _ => true) true fuel 55 [v] = some y) (hz : Sz Try.prog 55 y.1) (hb : Rows.uptoBulk y.1 ≤ 1048576) : ∃ a n c QS LS, v = .slice a n c ∧ RdRs w a n c QS LS ∧ n ≤ 1048576 := by
  obtain ⟨a, n, c, R, h1, h2, h3, h4⟩ := open_elems (E := recE) (G := fun q => ∃ L, RecR w q L) (t := 55) (by kernel_rfl) (by kernel_rfl) (fun n cs x hx hz hl => rec_el hx hz hl) hf hz
  obtain ⟨LS, h5, h6⟩ := lists_of R h3
  subst h1
  have hn : n ≤ 1048576 := Nat.le_trans (slice_bulk Try.underlying55 hf) hb
  exact ⟨a, n, c, R, LS, rfl, ⟨h2, h5, by simp [reachBytes]; omega, h6⟩, hn⟩
set_option maxRecDepth 100000 in
theorem q_el {fuel : Nat} {cs : List Value} {x : DataW H × List MemPlace} (hf : DataW.trod enc Try.prog w 0 (fun _ => true) true fuel 90 cs = some x) (hz : Sz Try.prog 90 x.1) (hl : cs.length = 3) : ∃ q : QD, cs = qsE.f q ∧ ∃ N, RdT w q.na q.nn q.nc N := by
  obtain ⟨m, _, hg⟩ := open_parts (L := [(26, 0, 1), (28, 1, 1), (29, 2, 1)]) (by kernel_rfl) hf hz
  match cs, hl with
  | [c0, c1, c2], _ =>
    obtain ⟨y0, g0, z0⟩ := hg 0 _ rfl
    obtain ⟨y1, g1, _⟩ := hg 1 _ rfl
    obtain ⟨y2, g2, _⟩ := hg 2 _ rfl
    obtain ⟨oa, on, oc, ow, e0, h0⟩ := in_texts (t := 26) (by kernel_rfl) Try.underlying9 (by kernel_rfl) (by kernel_rfl) (v := c0) (by simpa using g0) z0
    obtain ⟨ty, e1, _⟩ := in_u16 (t := 28) (by kernel_rfl) (v := c1) (by simpa using g1)
    obtain ⟨cl, e2, _⟩ := in_u16 (t := 29) (by kernel_rfl) (v := c2) (by simpa using g2)
    subst e0 e1 e2
    exact ⟨⟨oa, on, oc, ty, cl⟩, rfl, ow, h0⟩
theorem in_qs {fuel : Nat} {v : Value} {y : DataW H × List MemPlace} (hf : DataW.trod enc Try.prog w 0 (fun _ => true) true fuel 58 [v] = some y) (hz : Sz Try.prog 58 y.1) (hb : Rows.uptoBulk y.1 ≤ 1048576) : ∃ a n c QS LS, v = .slice a n c ∧ RdQs w a n c QS LS ∧ n ≤ 1048576 := by
  obtain ⟨a, n, c, R, h1, h2, h3, h4⟩ := open_elems (E := qsE) (G := fun q => ∃ N, RdT w q.na q.nn q.nc N) (t := 58) (by kernel_rfl) (by kernel_rfl) (fun n cs x hx hz hl => q_el hx hz hl) hf hz
  obtain ⟨LS, h5, h6⟩ := lists_of R h3
  subst h1
  have hn : n ≤ 1048576 := Nat.le_trans (slice_bulk (t := 58) (e := 90) (by kernel_rfl) hf) hb
  exact ⟨a, n, c, R, LS, rfl, ⟨h2, h5, by simp [reachBytes]; omega, h6⟩, hn⟩
set_option maxRecDepth 100000 in
theorem open_msg {v : Value} {d : DataW H} {p : List MemPlace} {r : Reach} {b0 : Nat} (hv : Value.okWide Try.prog w r b0 60 v) (h : DataW.Trod enc Try.prog w 0 (fun _ => true) true 60 v d p) (hz : Sz Try.prog 60 d) (hb : Rows.uptoBulk d ≤ 1048576) :
    ∃ (id : Int) (rs : Bool) (op : Int) (aa tc rd ra ad cd : Bool) (rc : Int) (qa : Option Addr) (qn qc : Nat) (QS : List QD) (NS : List Nm) (an : Option Addr) (nn1 nc1 : Nat) (Q1 : List RD) (L1 : List RL) (au : Option Addr) (nn2 nc2 : Nat) (Q2 : List RD) (L2 : List RL) (ad3 : Option Addr) (nn3 nc3 : Nat) (Q3 : List RD) (L3 : List RL),
      v = .agg #[.int .u16 id, .bool rs, .int .i64 op, .bool aa, .bool tc, .bool rd, .bool ra, .bool ad, .bool cd, .int .i64 rc, .slice qa qn qc, .slice an nn1 nc1, .slice au nn2 nc2, .slice ad3 nn3 nc3] ∧ RdM w qa qn qc QS NS an nn1 nc1 Q1 L1 au nn2 nc2 Q2 L2 ad3 nn3 nc3 Q3 L3 ∧ nn1 + nn2 + nn3 ≤ 4000000 := by
  obtain ⟨cs, rfl, hsz⟩ := okWide_struct Try.underlying60 hv
  obtain ⟨fuel, hf⟩ := h
  have h14 : Try.prog.cellsOf 60 = 14 := by kernel_rfl
  obtain ⟨l⟩ := cs
  obtain ⟨m, _, hg⟩ := open_partsB (x := (d, p)) (L := [(27, 0, 1), (4, 1, 1), (3, 2, 1), (4, 3, 1), (4, 4, 1), (4, 5, 1), (4, 6, 1), (4, 7, 1), (4, 8, 1), (3, 9, 1), (58, 10, 1), (55, 11, 1), (55, 12, 1), (55, 13, 1)]) (by kernel_rfl) hf hz
  simp only [Value.cells] at hg
  match l, (by have := hsz.trans h14; simpa using this : l.length = 14) with
  | [c0, c1, c2, c3, c4, c5, c6, c7, c8, c9, c10, c11, c12, c13], _ =>
    obtain ⟨y0, g0, z0, b0⟩ := hg 0 _ rfl
    obtain ⟨y1, g1, z1, b1⟩ := hg 1 _ rfl
    obtain ⟨y2, g2, z2, b2⟩ := hg 2 _ rfl
    obtain ⟨y3, g3, z3, b3⟩ := hg 3 _ rfl
    obtain ⟨y4, g4, z4, b4⟩ := hg 4 _ rfl
    obtain ⟨y5, g5, z5, b5⟩ := hg 5 _ rfl
    obtain ⟨y6, g6, z6, b6⟩ := hg 6 _ rfl
    obtain ⟨y7, g7, z7, b7⟩ := hg 7 _ rfl
    obtain ⟨y8, g8, z8, b8⟩ := hg 8 _ rfl
    obtain ⟨y9, g9, z9, b9⟩ := hg 9 _ rfl
    obtain ⟨y10, g10, z10, b10⟩ := hg 10 _ rfl
    obtain ⟨y11, g11, z11, b11⟩ := hg 11 _ rfl
    obtain ⟨y12, g12, z12, b12⟩ := hg 12 _ rfl
    obtain ⟨y13, g13, z13, b13⟩ := hg 13 _ rfl
    obtain ⟨u0, e0, _⟩ := DataW.trod_int (by kernel_rfl : Try.prog.underlying 27 = some (.int .u16)) g0
    obtain ⟨u1, e1, _⟩ := DataW.trod_bool Try.underlying4 g1
    obtain ⟨u2, e2, _⟩ := DataW.trod_int Try.underlying3 g2
    obtain ⟨u3, e3, _⟩ := DataW.trod_bool Try.underlying4 g3
    obtain ⟨u4, e4, _⟩ := DataW.trod_bool Try.underlying4 g4
    obtain ⟨u5, e5, _⟩ := DataW.trod_bool Try.underlying4 g5
    obtain ⟨u6, e6, _⟩ := DataW.trod_bool Try.underlying4 g6
    obtain ⟨u7, e7, _⟩ := DataW.trod_bool Try.underlying4 g7
    obtain ⟨u8, e8, _⟩ := DataW.trod_bool Try.underlying4 g8
    obtain ⟨u9, e9, _⟩ := DataW.trod_int Try.underlying3 g9
    obtain ⟨a10, n10, k10, Q10, L10, e10, h10, x10⟩ := in_qs (v := c10) (by simpa using g10) z10 (Nat.le_trans b10 hb)
    obtain ⟨a11, n11, k11, Q11, L11, e11, h11, x11⟩ := in_recs (v := c11) (by simpa using g11) z11 (Nat.le_trans b11 hb)
    obtain ⟨a12, n12, k12, Q12, L12, e12, h12, x12⟩ := in_recs (v := c12) (by simpa using g12) z12 (Nat.le_trans b12 hb)
    obtain ⟨a13, n13, k13, Q13, L13, e13, h13, x13⟩ := in_recs (v := c13) (by simpa using g13) z13 (Nat.le_trans b13 hb)
    simp at e0 e1 e2 e3 e4 e5 e6 e7 e8 e9
    subst e0 e1 e2 e3 e4 e5 e6 e7 e8 e9 e10 e11 e12 e13
    exact ⟨u0, u1, u2, u3, u4, u5, u6, u7, u8, u9, a10, n10, k10, Q10, L10, a11, n11, k11, Q11, L11, a12, n12, k12, Q12, L12, a13, n13, k13, Q13, L13, rfl, ⟨h10, h11, h12, h13⟩, by omega⟩
end
end Go.Proofs.Ythgnlbdolilklaa
