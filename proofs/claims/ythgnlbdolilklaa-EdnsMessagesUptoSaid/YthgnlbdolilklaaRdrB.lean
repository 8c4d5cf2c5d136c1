/- Layer 1: the reader, the program's: what is taken. -/
import Derived.Test.YthgnlbdolilklaaRdrA
namespace Go.Proofs.Ythgnlbdolilklaa
open Go.RowKit

theorem Rdr.same {w w' : World} {lo g : Nat} {l : List UInt8} {at_ : Nat} {bad : Bool} (h : Rdr w lo g l at_ bad) (e : w'.heap = w.heap) : Rdr w' lo g l at_ bad := by
  obtain ⟨a, c, h1, h2, r⟩ := h
  exact ⟨a, c, (congrArg (·[g]?) e).trans h1, h2.keep fun b _ _ _ _ => congrArg (·[b]?) e, r⟩
theorem addr_block (a : Addr) (n : Nat) : (a.add n).block = a.block := by unfold Addr.add; split <;> rfl
/-- s[lo:hi], with the block it lies in -/
theorem cut_lh2 {α : Type} {P : Program} {E : Enc α} {w : World} {a : Option Addr} {n c : Nat} {l : List α} (h : Rd E w a n c l) (t : TypeId) (ht : P.underlying t = some (.slice E.e)) (hs : (P.info? E.e).map (·.size) = some E.k)
    (kl kh : IntKind) (lo hi : Int) (lo' hi' : Nat) (e1 : lo = lo') (e2 : hi = hi') (h1 : lo' ≤ hi') (h2 : hi' ≤ n) :
    ∃ a', (∀ u, (Instr.slice t (.slice a n c) (some (.int kl lo)) (some (.int kh hi)) none).run P u = .ok (.slice a' (hi' - lo') (c - lo')) u) ∧ Rd E w a' (hi' - lo') (c - lo') ((l.take hi').drop lo') ∧ (∀ b o s, a' = some ⟨b, o, s⟩ → ∃ o' s', a = some ⟨b, o', s'⟩) := by
  subst e1 e2
  have hc := h.cap
  refine ⟨_, fun u => ?_, h.cut lo' hi' c h1 h2 (by omega) (Nat.le_refl _), ?_⟩
  · have ee := elem_of ht
    rw [run_slice_lh u t a n c (by rw [ee]; exact ht) kl kh lo' hi' (by omega) (by omega) (by omega), ee, run_sizeOf_info hs]
    simp [Result.andThen, sliced]
  · intro b o s e
    split at e
    · exact ⟨o, s, e⟩
    · obtain ⟨x, rfl, e2⟩ := Option.map_eq_some_iff.1 e
      have e3 : b = x.block := by rw [← addr_block x (lo' * E.k), e2]
      subst e3
      exact ⟨x.off, x.spot, rfl⟩

set_option maxHeartbeats 2000000 in
set_option maxRecDepth 100000 in
theorem rdr_take_yes {w : World} {lo g : Nat} {l : List UInt8} {at_ : Nat} (h : Rdr w lo g l at_ false) (hl : l.length ≤ 140737488355328) (n : Nat) (hn : at_ + n ≤ l.length) :
    Calls Try.prog 64 #[.pointer (some ⟨g, 0, none⟩), .int .i64 n] w fun e w' => (∃ a' c', e = .returned (.slice a' n c') ∧ Rd byteE w' a' n c' ((l.drop at_).take n)) ∧ Rdr w' lo g l (at_ + n) false ∧ w.grownBy w' (some g) := by
  have hP := Lib.hid (h.put (at_ + n) hn rfl)
  have h0 := h
  obtain ⟨a, c, h1, h2, h3, h4, h5⟩ := h
  have hsz1 : (Try.prog.info? byteE.e).map (·.size) = some byteE.k := by kernel_rfl
  obtain ⟨a', hsl, hr, hab⟩ := cut_lh2 (P := Try.prog) h2 33 Try.underlying33 hsz1 .i64 .i64 (at_ : Int) ((at_ : Int) + n) at_ (at_ + n) rfl (by omega) (by omega) hn
  have hd : (l.take (at_ + n)).drop at_ = (l.drop at_).take n := by rw [List.drop_take]; congr 1; omega
  rw [hd, show at_ + n - at_ = n by omega] at hr
  rw [show at_ + n - at_ = n by omega] at hsl
  have hR := Lib.hid (hr.keep (w' := w.setCell ⟨g, 1, none⟩ (.int .i64 ((at_ + n : Nat) : Int))) fun b o s e _ => Below.heap_setCell _ _ _ _ (by
    obtain ⟨o', s', ho'⟩ := hab b o s e
    have := (h3 b o' s' ho').2; simp only [ne_eq]; omega))
  have c0 : w.cell? ⟨g, 0, none⟩ = some (.slice a l.length c) := by rw [h1.cell]; rfl
  have c1 : w.cell? ⟨g, 1, none⟩ = some (.int .i64 at_) := by rw [h1.cell]; rfl
  have c2 : w.cell? ⟨g, 2, none⟩ = some (.bool false) := by rw [h1.cell]; rfl
  have f1 : w.frozen? ⟨g, 1, none⟩ = false := by rw [h1.frozen]; simp
  have h1' := h1.set 1 (.int .i64 ((at_ : Int) + (n : Int)))
  have d0 : (w.setCell ⟨g, 1, none⟩ (.int .i64 ((at_ : Int) + (n : Int)))).cell? ⟨g, 0, none⟩ = some (.slice a l.length c) := by rw [h1'.cell]; rfl
  have d1 : (w.setCell ⟨g, 1, none⟩ (.int .i64 ((at_ : Int) + (n : Int)))).cell? ⟨g, 1, none⟩ = some (.int .i64 ((at_ : Int) + (n : Int))) := by rw [h1'.cell]; rfl
  have hG := Lib.hid (grown_set w g 1 (.int .i64 ((at_ : Int) + (n : Int))))
  have hR' : Hid (Rd byteE (w.setCell ⟨g, 1, none⟩ (.int .i64 ((at_ : Int) + (n : Int)))) a' n (c - at_) ((l.drop at_).take n)) := by simpa using hR
  have hP' : Hid (Rdr (w.setCell ⟨g, 1, none⟩ (.int .i64 ((at_ : Int) + (n : Int)))) lo g l (at_ + n) false) := by simpa using hP
  clear hab h1 h2 h3 h1' hr hd hR hP h5
  have hH := Lib.hid h0; clear h0
  have ew : IntKind.i64.wrap ((l.length : Int) - (at_ : Int)) = (l.length : Int) - (at_ : Int) := IntWalk.i64_in _ (by omega)
  have ew2 : IntKind.i64.wrap ((at_ : Int) + (n : Int)) = (at_ : Int) + (n : Int) := IntWalk.i64_in _ (by omega)
  have ew3 : IntKind.i64.wrap ((at_ : Int) + (n : Int) - (n : Int)) = (at_ : Int) := by rw [show (at_ : Int) + (n : Int) - (n : Int) = at_ by omega]; exact IntWalk.i64_in _ (by omega)
  go_enter Try.func64, Try.ntmps64
  go_wp2_with (go_at_call 62; refine (rdr_none hH.out).mono ?_; rintro e w1 ⟨rfl, rfl⟩)
  go_wp2_with fail
  go_quiet (fail)
  go_wp2_with fail
  generalize hW : w.setCell ⟨g, 1, none⟩ (.int .i64 ((at_ : Int) + (n : Int))) = w2 at *
  go_quiet (fail)
  go_wp2_with fail
  go_ret
  subst hW
  refine ⟨⟨a', c - at_, rfl, hR'.out.keep fun _ _ _ _ _ => rfl⟩, ?_, ⟨hG.out.os, hG.out.tape, hG.out.output, hG.out.size, hG.out.block⟩⟩
  have hp := hP'.out
  exact hp.same rfl

/-- what a reader's calls make of its place -/
def tk (l : List UInt8) (at_ : Nat) (bad : Bool) (n : Int) : Bool := !bad && decide (0 ≤ n ∧ n ≤ (l.length : Int) - at_)
theorem tk_no {l : List UInt8} {at_ : Nat} {bad : Bool} {n : Int} (h : tk l at_ bad n = false) : bad = true ∨ n < 0 ∨ (l.length : Int) - at_ < n := by
  unfold tk at h; cases bad <;> simp at h ⊢; omega
theorem tk_yes {l : List UInt8} {at_ : Nat} {bad : Bool} {n : Int} (h : tk l at_ bad n = true) : bad = false ∧ ∃ k : Nat, n = k ∧ at_ + k ≤ l.length ∨ False := by
  unfold tk at h; simp at h; exact ⟨h.1, n.toNat, .inl (by omega)⟩
def tkAt (l : List UInt8) (at_ : Nat) (bad : Bool) (n : Int) : Nat := if tk l at_ bad n then at_ + n.toNat else 0
def tkL (l : List UInt8) (at_ : Nat) (bad : Bool) (n : Int) : List UInt8 := if tk l at_ bad n then (l.drop at_).take n.toNat else []

set_option maxHeartbeats 2000000 in
theorem rdr_take {w : World} {lo g : Nat} {l : List UInt8} {at_ : Nat} {bad : Bool} (h : Rdr w lo g l at_ bad) (hl : l.length ≤ 140737488355328) (n : Int) :
    Calls Try.prog 64 #[.pointer (some ⟨g, 0, none⟩), .int .i64 n] w fun e w' => (∃ a' m c', e = .returned (.slice a' m c') ∧ Rd byteE w' a' m c' (tkL l at_ bad n) ∧ (tk l at_ bad n = true → (m : Int) = n) ∧ (tk l at_ bad n = false → m = 0)) ∧ Rdr w' lo g l (tkAt l at_ bad n) (!tk l at_ bad n) ∧ w.grownBy w' (some g) := by
  cases ht : tk l at_ bad n with
  | false =>
    refine (rdr_take_no h hl n (tk_no ht)).mono ?_
    rintro e w' ⟨rfl, h1, h2⟩
    refine ⟨⟨none, 0, 0, rfl, ?_, fun e => by simp at e, fun _ => rfl⟩, ?_, h2⟩
    · simp only [tkL, ht]; exact Rd.nil _ _
    · simp only [tkAt, ht]; exact h1
  | true =>
    obtain ⟨rfl, k, ⟨rfl, hk⟩ | hf⟩ := tk_yes ht
    · refine (rdr_take_yes h hl k hk).mono ?_
      rintro e w' ⟨⟨a', c', rfl, h0⟩, h1, h2⟩
      refine ⟨⟨a', k, c', rfl, ?_, fun _ => rfl, fun e => by simp at e⟩, ?_, h2⟩
      · simp only [tkL, ht]; exact h0
      · simp only [tkAt, ht]; exact h1
    · exact hf.elim
/-- the number that is taken -/
def tkN (l : List UInt8) (at_ : Nat) (bad : Bool) (size : Nat) : Nat := numL (tkL l at_ bad size)
theorem tkL_length (l : List UInt8) (at_ : Nat) (bad : Bool) (size : Nat) (h : tk l at_ bad size = true) : (tkL l at_ bad size).length = size := by
  simp only [tkL, h]; unfold tk at h; simp at h; simp; omega
theorem tkN_lt (l : List UInt8) (at_ : Nat) (bad : Bool) (size : Nat) (h : size ≤ 4) : tkN l at_ bad size < 4294967296 := by
  unfold tkN
  cases ht : tk l at_ bad size with
  | true => exact numL_lt4 _ (by rw [tkL_length _ _ _ _ ht]; exact h)
  | false => simp [tkL, ht, numL]

set_option maxHeartbeats 2000000 in
set_option maxRecDepth 100000 in
theorem rdr_number {w : World} {lo g : Nat} {l : List UInt8} {at_ : Nat} {bad : Bool} (h : Rdr w lo g l at_ bad) (hl : l.length ≤ 140737488355328) (size : Nat) (hs : size ≤ 4) (hs1 : 1 ≤ size) :
    Calls Try.prog 63 #[.pointer (some ⟨g, 0, none⟩), .int .i64 size] w fun e w' => e = .returned (.int .u32 (tkN l at_ bad size)) ∧ Rdr w' lo g l (tkAt l at_ bad size) (!tk l at_ bad size) ∧ w.grownBy w' (some g) := by
  have hH := Lib.hid h; clear h
  have hN : ∀ (w1 : World) (a' : Option Addr) (m c' : Nat), Rd byteE w1 a' m c' (tkL l at_ bad size) → (tk l at_ bad size = true → (m : Int) = size) → (tk l at_ bad size = false → m = 0) →
      ∃ b : Bool, Calls Try.prog 72 #[.slice a' m c', .int .i64 0, .int .i64 size] w1 fun e w' => e = .returned (.tuple #[.int .u32 (tkN l at_ bad size), .bool b]) ∧ w1 = w' := by
    intro w1 a' m c' hr h1 h2
    cases ht : tk l at_ bad size with
    | true =>
      have hm : m = size := by have := h1 ht; omega
      subst hm
      refine ⟨true, (number_yes hr 0 m hs (by omega) (by have := hr.most; simpa [maxLen] using this) (by omega)).mono ?_⟩
      rintro e w' ⟨rfl, rfl⟩
      refine ⟨?_, rfl⟩
      rw [List.drop_zero, List.take_of_length_le (by rw [hr.len]; exact Nat.le_refl _)]; rfl
    | false =>
      have hm := h2 ht
      subst hm
      refine ⟨false, (number_no 0 size ⟨by omega, by omega⟩ hs (by omega)).mono ?_⟩
      rintro e w' ⟨rfl, rfl⟩
      refine ⟨?_, rfl⟩
      have : tkL l at_ bad size = [] := List.eq_nil_of_length_eq_zero hr.len
      unfold tkN; rw [this]; rfl
  have hNN := Lib.hid hN; clear hN
  go_enter Try.func63, Try.ntmps63
  go_wp2_with (go_at_call 64; refine (rdr_take hH.out hl _).mono ?_; rintro e w1 ⟨⟨a', m, c', rfl, hr, h1, h2⟩, hR, hg⟩; obtain ⟨b, hb⟩ := hNN.out w1 a' m c' hr h1 h2; have hRR := Lib.hid hR; clear hr h1 h2 hR)
  go_wp2_with (go_at_call 72; refine hb.mono ?_; rintro e w2 ⟨rfl, rfl⟩)
  go_wp2_with fail
  go_ret
  exact ⟨rfl, hRR.out, hg⟩
set_option maxHeartbeats 2000000 in
set_option maxRecDepth 100000 in
theorem rdr_u16 {w : World} {lo g : Nat} {l : List UInt8} {at_ : Nat} {bad : Bool} (h : Rdr w lo g l at_ bad) (hl : l.length ≤ 140737488355328) :
    Calls Try.prog 42 #[.pointer (some ⟨g, 0, none⟩)] w fun e w' => e = .returned (.int .i64 (tkN l at_ bad 2)) ∧ Rdr w' lo g l (tkAt l at_ bad 2) (!tk l at_ bad 2) ∧ w.grownBy w' (some g) := by
  have hH := Lib.hid h; clear h
  have hlt := tkN_lt l at_ bad 2 (by omega)
  go_enter Try.func42, Try.ntmps42
  go_wp2_with (go_at_call 63; refine (rdr_number hH.out hl 2 (by omega) (by omega)).mono ?_; rintro e w1 ⟨rfl, hR, hg⟩; have hRR := Lib.hid hR; clear hR)
  go_wp2_with fail
  go_ret
  exact ⟨by first | rfl | (apply ret_int; go_num), hRR.out, hg⟩
end Go.Proofs.Ythgnlbdolilklaa
