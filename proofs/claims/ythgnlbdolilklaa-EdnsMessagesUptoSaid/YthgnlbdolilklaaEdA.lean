/- What is said, in memory: options as a slice of structs; Large 8, Same 16, may 36. -/
import Derived.Test.YthgnlbdolilklaaJn2
import Derived.Deep.QuietTactic
import Derived.BigQuiet
import Derived.WalkSmall
namespace Go.Proofs.Ythgnlbdolilklaa
open Go Go.RowKit
/-- an option: its code, its bytes -/
abbrev Opt := Nat × List UInt8
/-- what is said -/
def eV (sz hi ver : Int) (d : Bool) (o : Value) : Value := .agg #[.int .i64 sz, .int .i64 hi, .int .i64 ver, .bool d, o]
def opE : Enc (Nat × (Option Addr × Nat × Nat)) := ⟨53, 2, fun p => [.int .u16 p.1, .slice p.2.1 p.2.2.1 p.2.2.2], (0, none, 0, 0), fun _ => rfl, fun x v hv => by simp at hv; rcases hv with rfl | rfl <;> rfl, by decide⟩
/-- a slice of options reads as these -/
def RdO (w : World) (a : Option Addr) (n c : Nat) (O : List Opt) : Prop :=
  ∃ ps : List (Nat × (Option Addr × Nat × Nat)), Rd opE w a n c ps ∧ ps.length = O.length ∧ ∀ (j : Nat) (p : Nat × (Option Addr × Nat × Nat)) (o : Opt), ps[j]? = some p → O[j]? = some o → p.1 = o.1 ∧ Rd byteE w p.2.1 p.2.2.1 p.2.2.2 o.2
theorem RdO.ext {w w' : World} {a : Option Addr} {n c : Nat} {O : List Opt} (h : RdO w a n c O) (hb : Below w.heap.size w w') : RdO w' a n c O := by
  obtain ⟨ps, h1, h2, h3⟩ := h
  exact ⟨ps, h1.ext hb, h2, fun j p X hp hX => ⟨(h3 j p X hp hX).1, (h3 j p X hp hX).2.ext hb⟩⟩
theorem RdO.same {w w' : World} {a : Option Addr} {n c : Nat} {O : List Opt} (h : RdO w a n c O) (e : w'.heap = w.heap) : RdO w' a n c O := by
  obtain ⟨ps, h1, h2, h3⟩ := h
  exact ⟨ps, h1.keep (fun b _ _ _ _ => by rw [e]), h2, fun j p X hp hX => ⟨(h3 j p X hp hX).1, (h3 j p X hp hX).2.keep (fun b _ _ _ _ => by rw [e])⟩⟩
theorem RdO.len {w : World} {a : Option Addr} {n c : Nat} {O : List Opt} (h : RdO w a n c O) : O.length = n := by
  obtain ⟨ps, h1, h2, _⟩ := h
  rw [← h2, h1.len]
theorem RdO.most {w : World} {a : Option Addr} {n c : Nat} {O : List Opt} (h : RdO w a n c O) : n ≤ maxLen := by
  obtain ⟨ps, h1, _, _⟩ := h
  exact Nat.le_trans h1.cap h1.most
theorem RdO.at_ {w : World} {a : Option Addr} {n c : Nat} {O : List Opt} (h : RdO w a n c O) (h0 : 0 < n) : ∃ b o, a = some ⟨b, o, none⟩ ∧ b < w.heap.size ∧
    ∀ j (hj : j < O.length), ∃ a' n' c', w.cell? ⟨b, o + j * 2, none⟩ = some (.int .u16 (O[j].1 : Nat)) ∧ w.cell? ⟨b, o + j * 2 + 1, none⟩ = some (.slice a' n' c') ∧ Rd byteE w a' n' c' O[j].2 := by
  obtain ⟨ps, h1, h2, h3⟩ := h
  obtain ⟨b, o, hab, hlt, hc⟩ := h1.addr h0
  refine ⟨b, o, hab, hlt, fun j hj => ?_⟩
  have hj' : j < ps.length := by omega
  obtain ⟨q1, q2⟩ := h3 j ps[j] O[j] (List.getElem?_eq_getElem hj') (List.getElem?_eq_getElem hj)
  have c0 := hc j hj' 0 (by decide)
  have c1 := hc j hj' 1 (by decide)
  rw [← q1]
  exact ⟨_, _, _, c0, c1, q2⟩
/-- an option may not be larger than this here -/
def smallO (O : List Opt) : Prop := O.length ≤ 40 ∧ ∀ o ∈ O, o.2.length ≤ 65540
def SomeB (p : Prop) (e : Ending) : Prop := ∃ b, e = .returned (.bool b) ∧ (b = false → p)
theorem SomeB.yes (p : Prop) {e : Ending} (h : e = .returned (.bool true)) : SomeB p e := ⟨true, h, fun e => by cases e⟩
theorem SomeB.any {p : Prop} {e : Ending} (b : Bool) (h : e = .returned (.bool b)) (h2 : b = false → p) : SomeB p e := ⟨b, h, h2⟩
set_option maxHeartbeats 4000000 in
set_option maxRecDepth 100000 in
theorem large_any {w : World} {a : Option Addr} {n c : Nat} {O : List Opt} (h : RdO w a n c O) (sz hi ver : Int) (d : Bool) :
    Calls Try.prog 8 #[eV sz hi ver d (.slice a n c)] w fun e w' => SomeB (smallO O) e ∧ Below w.heap.size w w' := by
  unfold eV
  have hl := h.len
  have hm := h.most
  subst hl
  simp only [maxLen] at hm
  obtain ⟨W1, hW1⟩ : ∃ W1, w.alloc (.cells #[.int .i64 sz, .int .i64 hi, .int .i64 ver, .bool d, .slice a O.length c] 24) = W1 := ⟨_, rfl⟩
  have hb1 : Below w.heap.size w W1 := by rw [← hW1]; exact (Below.refl _ _).alloc (Nat.le_refl _) _
  have hB1 : Blk W1 w.heap.size 24 (0, 0) [.int .i64 sz, .int .i64 hi, .int .i64 ver, .bool d, .slice a O.length c] := by rw [← hW1]; exact Blk.new w 24 (0, 0) #[.int .i64 sz, .int .i64 hi, .int .i64 ver, .bool d, .slice a O.length c]
  have c4 : W1.cell? ⟨w.heap.size, 4, none⟩ = some (.slice a O.length c) := (hB1.cell 4).trans rfl
  have hH := Lib.hid (h.ext hb1)
  have hb1' := Lib.hid hb1
  clear h hb1 hB1
  go_enter Try.func8, Try.ntmps8
  go_wp2_with fail
  try rw [hW1]
  clear hW1
  go_loopw [3] (fun i wr => ∃ k : Nat, k ≤ O.length ∧ i = .int .i64 k ∧ Hid (∀ o ∈ O.take k, o.2.length ≤ 65540) ∧ wr = W1) (fun i _ => O.length - (intOf i).toNat)
  case atStart => exact ⟨0, Nat.zero_le _, rfl, Lib.hid (fun o ho => by cases ho), rfl⟩
  case round =>
    obtain ⟨k, hk, rfl, hp, rfl⟩ := hrel
    by_cases hlt : k < O.length
    · obtain ⟨b, o, rfl, _, hcs⟩ := hH.out.at_ (by omega)
      obtain ⟨a', n', c', q0, q1, q2⟩ := hcs k hlt
      have hn' := q2.len
      have hnx := Lib.hid hn'
      clear q0 q2 hcs hn'
      have step : n' ≤ 65540 → ∀ o ∈ O.take (k + 1), o.2.length ≤ 65540 := fun hle o ho => by
        rw [List.take_succ_eq_append_getElem hlt] at ho
        rcases List.mem_append.1 ho with ho | ho
        · exact hp.out o ho
        · have : o = O[k] := by simpa using ho
          subst this
          rw [hnx.out]; exact hle
      have step' := Lib.hid step
      clear step
      by_cases h1 : n' ≤ 3000
      · have h1I : ¬ (3000 : Int) < n' := by omega
        go_wp2_with fail
        go_roundw
        case rel => exact ⟨k + 1, by omega, by go_num, Lib.hid (step'.out (by omega)), by trivial⟩
        case measure => simp [intOf]; omega
      · have h1I : (3000 : Int) < n' := by omega
        by_cases h2 : n' ≤ 65000 ∨ 65540 < n' ∨ 2 < O.length
        · have hb : (decide ((n' : Int) ≤ 65000) || decide ((65540 : Int) < n') || decide ((2 : Int) < O.length)) = true := by simp; omega
          have hb2 : (decide ((n' : Int) ≤ 65000) || (decide ((65540 : Int) < n') || decide ((2 : Int) < O.length))) = true := by simp; omega
          go_wp2_with fail
          all_goals
            go_ret
            exact ⟨SomeB.yes _ rfl, hb1'.out⟩
        · have x1 : ¬ (n' : Int) ≤ 65000 := by omega
          have x2 : ¬ (65540 : Int) < n' := by omega
          have x3 : ¬ (2 : Int) < O.length := by omega
          go_wp2_with fail
          go_roundw
          case rel => exact ⟨k + 1, by omega, by go_num, Lib.hid (step'.out (by omega)), by trivial⟩
          case measure => simp [intOf]; omega
    · have hk' : k = O.length := by omega
      subst hk'
      go_wp2_with fail
      go_ret
      refine ⟨SomeB.any (decide ((40 : Int) < O.length)) rfl (fun h => ⟨?_, ?_⟩), hb1'.out⟩
      · simp at h; omega
      · have := hp.out; rwa [List.take_length] at this
set_option maxHeartbeats 4000000 in
set_option maxRecDepth 100000 in
theorem same_edns {w : World} {a a' : Option Addr} {n c n' c' : Nat} {O : List Opt} (h : RdO w a n c O) (h' : RdO w a' n' c' O) (sz hi ver : Int) (d : Bool) :
    Calls Try.prog 16 #[eV sz hi ver d (.slice a n c), eV sz hi ver d (.slice a' n' c')] w fun e w' => e = .returned (.bool true) ∧ Below w.heap.size w w' := by
  unfold eV
  have hl := h.len
  have hl' := h'.len
  have hm := h.most
  subst hl
  subst hl'
  simp only [maxLen] at hm
  obtain ⟨W1, hW1⟩ : ∃ W1, w.alloc (.cells #[.int .i64 sz, .int .i64 hi, .int .i64 ver, .bool d, .slice a O.length c] 24) = W1 := ⟨_, rfl⟩
  obtain ⟨W2, hW2⟩ : ∃ W2, W1.alloc (.cells #[.int .i64 sz, .int .i64 hi, .int .i64 ver, .bool d, .slice a' O.length c'] 24) = W2 := ⟨_, rfl⟩
  have hb1 : Below w.heap.size w W1 := by rw [← hW1]; exact (Below.refl _ _).alloc (Nat.le_refl _) _
  have hB1 : Blk W1 w.heap.size 24 (0, 0) [.int .i64 sz, .int .i64 hi, .int .i64 ver, .bool d, .slice a O.length c] := by rw [← hW1]; exact Blk.new w 24 (0, 0) #[.int .i64 sz, .int .i64 hi, .int .i64 ver, .bool d, .slice a O.length c]
  have hB2 : Blk W2 W1.heap.size 24 (0, 0) [.int .i64 sz, .int .i64 hi, .int .i64 ver, .bool d, .slice a' O.length c'] := by rw [← hW2]; exact Blk.new W1 24 (0, 0) #[.int .i64 sz, .int .i64 hi, .int .i64 ver, .bool d, .slice a' O.length c']
  have hB1' : Blk W2 w.heap.size 24 (0, 0) [.int .i64 sz, .int .i64 hi, .int .i64 ver, .bool d, .slice a O.length c] := by rw [← hW2]; exact hB1.alloc _
  have hb2 : Below w.heap.size w W2 := by rw [← hW2]; exact hb1.alloc hb1.size _
  have p0 : W2.cell? ⟨w.heap.size, 0, none⟩ = some (.int .i64 sz) := (hB1'.cell 0).trans rfl
  have p1 : W2.cell? ⟨w.heap.size, 1, none⟩ = some (.int .i64 hi) := (hB1'.cell 1).trans rfl
  have p2 : W2.cell? ⟨w.heap.size, 2, none⟩ = some (.int .i64 ver) := (hB1'.cell 2).trans rfl
  have p3 : W2.cell? ⟨w.heap.size, 3, none⟩ = some (.bool d) := (hB1'.cell 3).trans rfl
  have p4 : W2.cell? ⟨w.heap.size, 4, none⟩ = some (.slice a O.length c) := (hB1'.cell 4).trans rfl
  have q0 : W2.cell? ⟨W1.heap.size, 0, none⟩ = some (.int .i64 sz) := (hB2.cell 0).trans rfl
  have q1 : W2.cell? ⟨W1.heap.size, 1, none⟩ = some (.int .i64 hi) := (hB2.cell 1).trans rfl
  have q2 : W2.cell? ⟨W1.heap.size, 2, none⟩ = some (.int .i64 ver) := (hB2.cell 2).trans rfl
  have q3 : W2.cell? ⟨W1.heap.size, 3, none⟩ = some (.bool d) := (hB2.cell 3).trans rfl
  have q4 : W2.cell? ⟨W1.heap.size, 4, none⟩ = some (.slice a' O.length c') := (hB2.cell 4).trans rfl
  have hH := Lib.hid (h.ext hb2)
  have hH' := Lib.hid (h'.ext hb2)
  have hb2' := Lib.hid hb2
  clear h h' hb1 hB1 hB2 hB1' hb2
  go_enter Try.func16, Try.ntmps16
  go_wp2_with fail
  try rw [hW1]
  try rw [hW2]
  clear hW2 hW1
  have hp4 := Lib.hid (And.intro p4 q4)
  clear p0 p1 p2 p3 p4 q0 q1 q2 q3 q4
  go_loopw [5] (fun i wr => ∃ k : Nat, k ≤ O.length ∧ i = .int .i64 k ∧ Hid (wr.heap = W2.heap) ∧ Hid (Below w.heap.size w wr)) (fun i _ => O.length - (intOf i).toNat)
  case atStart => exact ⟨0, Nat.zero_le _, rfl, Lib.hid rfl, hb2'⟩
  case round =>
    obtain ⟨k, hk, rfl, hh, hb⟩ := hrel
    have cc : ∀ x, wr.cell? x = W2.cell? x := fun x => by unfold World.cell?; rw [hh.out]
    have p4 := (cc _).trans hp4.out.1
    have q4 := (cc _).trans hp4.out.2
    by_cases hlt : k < O.length
    · obtain ⟨b, o, rfl, _, hcs⟩ := hH.out.at_ (by omega)
      obtain ⟨b', o', rfl, _, hcs'⟩ := hH'.out.at_ (by omega)
      obtain ⟨ax, nx, cx, r0, r1, r2⟩ := hcs k hlt
      obtain ⟨ay, ny, cy, s0, s1, s2⟩ := hcs' k hlt
      have hkI : (k : Int) < O.length := by omega
      have hk0 : 0 ≤ (k : Int) := by omega
      have r0' := (cc _).trans r0
      have r1' := (cc _).trans r1
      have s0' := (cc _).trans s0
      have s1' := (cc _).trans s1
      have r2' := Lib.hid (r2.keep (w' := wr) (fun b _ _ _ _ => by rw [hh.out]))
      have s2' := Lib.hid (s2.keep (w' := wr) (fun b _ _ _ _ => by rw [hh.out]))
      generalize O[k] = X at *
      clear r0 r1 s0 s1 r2 s2 hcs hcs' cc
      have hcall : ∀ q : Nat, Calls Try.prog 20 #[.slice ax nx cx, .slice ay ny cy] (wr.drewN q) fun e w' => e = .returned (.bool true) ∧ wr.drewN q = w' := fun q => by
        have := same_bytes (r2'.out.keep (w' := wr.drewN q) (fun _ _ _ _ _ => rfl)) (s2'.out.keep (w' := wr.drewN q) (fun _ _ _ _ _ => rfl))
        rwa [beq_self_eq_true] at this
      have hcall' := Lib.hid hcall
      clear hcall
      go_wp2_with fail
      go_quiet ((go_at_call 20; exact (hcall'.out _).mono fun _ _ h => ⟨h.1, ⟨_, h.2.symm⟩⟩))
      rename_i nq _
      have hh2 : Hid ((wr.drewN nq).heap = W2.heap) := hh
      have hb2 := Lib.hid (below_drewN hb.out nq)
      go_wp2_with fail
      go_roundw
      case rel => exact ⟨k + 1, by omega, by go_num, hh2, hb2⟩
      case measure => simp [intOf]; omega
    · have hk' : k = O.length := by omega
      subst hk'
      clear cc
      go_wp2_with fail
      go_ret
      exact ⟨rfl, hb.out⟩
end Go.Proofs.Ythgnlbdolilklaa
