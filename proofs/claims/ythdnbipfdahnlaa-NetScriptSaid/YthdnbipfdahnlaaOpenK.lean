/- Openers: a packet, fates, numbers. -/
import Derived.Test.YthdnbipfdahnlaaNtK
import Derived.Test.YthdnbipfdahnlaaOpenP
namespace Go.Proofs.Ythdnbipfdahnlaa
open Go Go.ChangeShapes Go.WideShapes Go.RowKit Go.Deep
variable {H : Type} {enc : TypeId × Value → H} {w : World}
set_option maxRecDepth 100000 in
theorem pk_cs {fuel : Nat} {cs : List Value} {x : DataW H × List MemPlace} (hf : DataW.trod enc Try.prog w 0 (fun _ => true) true fuel 32 cs = some x) (hz : Sz Try.prog 32 x.1) (hl : cs.length = 6) : ∃ (h : Hd) (a : Option Addr) (n c : Nat) (l : List UInt8), cs = pkC h (.slice a n c) ∧ Rd byteE w a n c l ∧ n ≤ 140737488355328 := by
  obtain ⟨m, _, hg⟩ := open_parts (L := [(28, 0, 1), (29, 1, 1), (28, 2, 1), (29, 3, 1), (4, 4, 1), (30, 5, 1)]) (by kernel_rfl) hf hz
  match cs, hl with
  | [c0, c1, c2, c3, c4, c5], _ =>
    obtain ⟨y0, g0, _⟩ := hg 0 _ rfl
    obtain ⟨y1, g1, _⟩ := hg 1 _ rfl
    obtain ⟨y2, g2, _⟩ := hg 2 _ rfl
    obtain ⟨y3, g3, _⟩ := hg 3 _ rfl
    obtain ⟨y4, g4, _⟩ := hg 4 _ rfl
    obtain ⟨y5, g5, z5⟩ := hg 5 _ rfl
    obtain ⟨u0, e0, _⟩ := DataW.trod_int (by kernel_rfl : Try.prog.underlying 28 = some (.int .u32)) g0
    obtain ⟨u1, e1, _⟩ := DataW.trod_int (by kernel_rfl : Try.prog.underlying 29 = some (.int .u16)) g1
    obtain ⟨u2, e2, _⟩ := DataW.trod_int (by kernel_rfl : Try.prog.underlying 28 = some (.int .u32)) g2
    obtain ⟨u3, e3, _⟩ := DataW.trod_int (by kernel_rfl : Try.prog.underlying 29 = some (.int .u16)) g3
    obtain ⟨u4, e4, _⟩ := DataW.trod_bool Try.underlying4 g4
    obtain ⟨a, n, c, l, e5, h5, hc⟩ := in_bytes (t := 30) (by kernel_rfl) Try.underlying5 (by kernel_rfl) (by kernel_rfl) (v := c5) (by simpa using g5) z5
    simp at e0 e1 e2 e3 e4
    subst e0 e1 e2 e3 e4 e5
    have h6 := h5.cap
    exact ⟨⟨u0, u1, u2, u3, u4⟩, a, n, c, l, rfl, h5, by unfold reachBytes at hc; omega⟩
set_option maxRecDepth 100000 in
theorem open_pk {v : Value} {d : DataW H} {p : List MemPlace} {r : Reach} {b0 : Nat} (hv : Value.okWide Try.prog w r b0 32 v) (h : DataW.Trod enc Try.prog w 0 (fun _ => true) true 32 v d p) (hz : Sz Try.prog 32 d) :
    ∃ (x : Hd) (a : Option Addr) (n c : Nat) (l : List UInt8), v = pkV x (.slice a n c) ∧ Rd byteE w a n c l ∧ n ≤ 140737488355328 := by
  obtain ⟨cs, rfl, hsz⟩ := okWide_struct Try.underlying32 hv
  obtain ⟨fuel, hf⟩ := h
  have h5 : Try.prog.cellsOf 32 = 6 := by kernel_rfl
  obtain ⟨l⟩ := cs
  obtain ⟨x, a, n, c, l', e, h1, h2⟩ := pk_cs (x := (d, p)) (by simpa only [Value.cells] using hf) hz (by have := hsz.trans h5; simpa using this)
  refine ⟨x, a, n, c, l', ?_, h1, h2⟩
  rw [e]; rfl
set_option maxRecDepth 100000 in
theorem in_ints {fuel : Nat} {v : Value} {y : DataW H × List MemPlace} (hf : DataW.trod enc Try.prog w 0 (fun _ => true) true fuel 22 [v] = some y) (hz : Sz Try.prog 22 y.1) : ∃ a n c R, v = .slice a n c ∧ Rd intE w a n c R ∧ n ≤ 100000000000000 := by
  obtain ⟨a, n, c, R, h1, h2, h3, h4⟩ := open_elems (E := intE) (G := fun _ => True) (t := 22) (by kernel_rfl) (by kernel_rfl) (fun n cs x hx hz hl => by
    obtain ⟨u, rfl, _, hw⟩ := DataW.trod_int Try.underlying3 hx
    exact ⟨u, rfl, trivial⟩) hf hz
  have e : Try.prog.bytesOf intE.e = 8 := by kernel_rfl
  rw [e] at h4
  have h5 := h2.cap
  exact ⟨a, n, c, R, h1, h2, by unfold reachBytes at h4; omega⟩
set_option maxRecDepth 100000 in
theorem in_fates {fuel : Nat} {v : Value} {y : DataW H × List MemPlace} (hf : DataW.trod enc Try.prog w 0 (fun _ => true) true fuel 40 [v] = some y) (hz : Sz Try.prog 40 y.1) : ∃ a n c R, v = .slice a n c ∧ Rd fateE w a n c R ∧ n ≤ 100000000000000 := by
  obtain ⟨a, n, c, R, h1, h2, h3, h4⟩ := open_elems (E := fateE) (G := fun _ => True) (t := 40) (by kernel_rfl) (by kernel_rfl) (fun n cs x hx hz hl => by
    obtain ⟨m, _, hg⟩ := open_parts (L := [(3, 0, 1), (3, 1, 1), (3, 2, 1)]) (by kernel_rfl) hx hz
    match cs, hl with
    | [c0, c1, c2], _ =>
      obtain ⟨y0, g0, _⟩ := hg 0 _ rfl
      obtain ⟨y1, g1, _⟩ := hg 1 _ rfl
      obtain ⟨y2, g2, _⟩ := hg 2 _ rfl
      obtain ⟨u0, e0, _⟩ := DataW.trod_int Try.underlying3 g0
      obtain ⟨u1, e1, _⟩ := DataW.trod_int Try.underlying3 g1
      obtain ⟨u2, e2, _⟩ := DataW.trod_int Try.underlying3 g2
      simp at e0 e1 e2
      subst e0 e1 e2
      exact ⟨(u0, u1, u2), rfl, trivial⟩) hf hz
  have e : Try.prog.bytesOf fateE.e = 24 := by kernel_rfl
  rw [e] at h4
  have h5 := h2.cap
  exact ⟨a, n, c, R, h1, h2, by unfold reachBytes at h4; omega⟩
end Go.Proofs.Ythdnbipfdahnlaa
