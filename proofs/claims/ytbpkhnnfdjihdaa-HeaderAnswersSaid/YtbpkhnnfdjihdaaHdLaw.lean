/- The two bytes of flags, as numbers. Nothing of the program. -/
import Derived.Laws.BitsLemmas
import Derived.Laws.IdiomRangeMap
namespace Go.Proofs.Ytbpkhnnfdjihdaa
open Go
def fk : Nat → Nat
  | 0 => 16 | 1 => 32 | 2 => 128 | 3 => 256 | 4 => 512 | 5 => 1024 | _ => 32768
def fo : Nat → Nat
  | 0 => 8 | 1 => 7 | 2 => 6 | 3 => 5 | 4 => 4 | 5 => 3 | _ => 1
def fb (b : Bool) (n : Nat) : Nat := if b then n else 0
/-- the bits, of the flags F -/
def orF (base : Nat) (F : Nat → Bool) : Nat := base ||| fb (F 0) 16 ||| fb (F 1) 32 ||| fb (F 2) 128 ||| fb (F 3) 256 ||| fb (F 4) 512 ||| fb (F 5) 1024 ||| fb (F 6) 32768
theorem orF_none (base : Nat) : orF base (fun _ => false) = base := by simp [orF, fb]
theorem orF_step (base : Nat) (F : Nat → Bool) (j : Nat) (hj : j < 7) : orF base F ||| fk j = orF base (fun i => if i = j then true else F i) := by
  match j, hj with
  | 0, _ => cases h : F 0 <;> simp [orF, fb, fk, h] <;> (try simp only [← Nat.or_assoc, Nat.or_comm, Nat.or_left_comm]) <;> apply Nat.eq_of_testBit_eq <;> intro i <;> simp [Nat.testBit_or] <;> grind
  | 1, _ => cases h : F 1 <;> simp [orF, fb, fk, h] <;> apply Nat.eq_of_testBit_eq <;> intro i <;> simp [Nat.testBit_or] <;> grind
  | 2, _ => cases h : F 2 <;> simp [orF, fb, fk, h] <;> apply Nat.eq_of_testBit_eq <;> intro i <;> simp [Nat.testBit_or] <;> grind
  | 3, _ => cases h : F 3 <;> simp [orF, fb, fk, h] <;> apply Nat.eq_of_testBit_eq <;> intro i <;> simp [Nat.testBit_or] <;> grind
  | 4, _ => cases h : F 4 <;> simp [orF, fb, fk, h] <;> apply Nat.eq_of_testBit_eq <;> intro i <;> simp [Nat.testBit_or] <;> grind
  | 5, _ => cases h : F 5 <;> simp [orF, fb, fk, h] <;> apply Nat.eq_of_testBit_eq <;> intro i <;> simp [Nat.testBit_or] <;> grind
  | 6, _ => cases h : F 6 <;> simp [orF, fb, fk, h] <;> apply Nat.eq_of_testBit_eq <;> intro i <;> simp [Nat.testBit_or] <;> grind
def tb (n : Nat) (j : Nat) : Bool := n &&& fk j != 0
def hbits (op rc : Nat) (F : Nat → Bool) : Nat := orF (op * 2048 ||| rc) F
theorem back_all : ∀ (op rc : Fin 16) (a b c d e f g : Bool),
    let n := orF (op.val * 2048 ||| rc.val) (fun j => match j with | 0 => a | 1 => b | 2 => c | 3 => d | 4 => e | 5 => f | _ => g)
    (decide (n < 65536) && n &&& 64 == 0 && n / 2048 &&& 15 == op.val && n &&& 15 == rc.val && tb n 0 == a && tb n 1 == b && tb n 2 == c && tb n 3 == d && tb n 4 == e && tb n 5 == f && tb n 6 == g) = true := by
  decide +kernel
set_option maxHeartbeats 20000000 in
theorem forth_all : ∀ (h l : Fin 256), let n := h.val * 256 + l.val
    (n &&& 64 != 0 || orF ((n / 2048 &&& 15) * 2048 ||| (n &&& 15)) (tb n) == n) = true := by
  decide +kernel
theorem orF_ext (base : Nat) {F G : Nat → Bool} (h : ∀ j, j < 7 → F j = G j) : orF base F = orF base G := by
  unfold orF; rw [h 0 (by decide), h 1 (by decide), h 2 (by decide), h 3 (by decide), h 4 (by decide), h 5 (by decide), h 6 (by decide)]
theorem back {op rc : Nat} (ho : op < 16) (hr : rc < 16) (F : Nat → Bool) :
    hbits op rc F < 65536 ∧ hbits op rc F &&& 64 = 0 ∧ hbits op rc F / 2048 &&& 15 = op ∧ hbits op rc F &&& 15 = rc ∧ ∀ j, j < 7 → tb (hbits op rc F) j = F j := by
  have h := back_all ⟨op, ho⟩ ⟨rc, hr⟩ (F 0) (F 1) (F 2) (F 3) (F 4) (F 5) (F 6)
  have e : orF (op * 2048 ||| rc) (fun j => match j with | 0 => F 0 | 1 => F 1 | 2 => F 2 | 3 => F 3 | 4 => F 4 | 5 => F 5 | _ => F 6) = hbits op rc F := orF_ext _ fun j hj => by
    match j, hj with
    | 0, _ => rfl
    | 1, _ => rfl
    | 2, _ => rfl
    | 3, _ => rfl
    | 4, _ => rfl
    | 5, _ => rfl
    | 6, _ => rfl
  simp only [e, Bool.and_eq_true, decide_eq_true_eq, beq_iff_eq] at h
  obtain ⟨⟨⟨⟨⟨⟨⟨⟨⟨⟨h1, h2⟩, h3⟩, h4⟩, h5⟩, h6⟩, h7⟩, h8⟩, h9⟩, h10⟩, h11⟩ := h
  refine ⟨h1, h2, h3, h4, fun j hj => ?_⟩
  match j, hj with
  | 0, _ => exact h5
  | 1, _ => exact h6
  | 2, _ => exact h7
  | 3, _ => exact h8
  | 4, _ => exact h9
  | 5, _ => exact h10
  | 6, _ => exact h11
theorem forth {n : Nat} (hn : n < 65536) (h : n &&& 64 = 0) : hbits (n / 2048 &&& 15) (n &&& 15) (tb n) = n := by
  have k := forth_all ⟨n / 256, by omega⟩ ⟨n % 256, by omega⟩
  have e : n / 256 * 256 + n % 256 = n := by omega
  simp only [e, h, bne_self_eq_false, Bool.false_or, beq_iff_eq] at k
  exact k
theorem and_lt16 (n : Nat) : n &&& 15 < 16 := by have := @Nat.and_le_right n 15; omega
theorem or_i64 (a b : Nat) (ha : a < 65536) (hb : b < 65536) : bits .or .i64 (a : Int) (b : Int) = ((a ||| b : Nat) : Int) := (bits_nat .i64 16 (by decide) (fun n h0 h1 => by rw [IntKind.wrap_i64]; omega) a b ha hb).2
theorem and_i64 (a b : Nat) (ha : a < 65536) (hb : b < 65536) : bits .and .i64 (a : Int) (b : Int) = ((a &&& b : Nat) : Int) := (bits_nat .i64 16 (by decide) (fun n h0 h1 => by rw [IntKind.wrap_i64]; omega) a b ha hb).1
theorem fk_lt (j : Nat) : fk j < 65536 := by unfold fk; split <;> decide
/-- the head's cells -/
def cellsH (id op rc : Int) (F : Nat → Bool) (S : List Value) : List Value := [.int .u16 id, .bool (F 6), .int .i64 op, .bool (F 5), .bool (F 4), .bool (F 3), .bool (F 2), .bool (F 1), .bool (F 0), .int .i64 rc] ++ S
theorem cellsH_get (id op rc : Int) (F : Nat → Bool) (S : List Value) (j : Nat) (hj : j < 7) : (cellsH id op rc F S)[fo j]? = some (.bool (F j)) := by
  match j, hj with
  | 0, _ => rfl
  | 1, _ => rfl
  | 2, _ => rfl
  | 3, _ => rfl
  | 4, _ => rfl
  | 5, _ => rfl
  | 6, _ => rfl
theorem cellsH_set (id op rc : Int) (F : Nat → Bool) (S : List Value) (j : Nat) (hj : j < 7) (b : Bool) : (cellsH id op rc F S).set (fo j) (.bool b) = cellsH id op rc (fun i => if i = j then b else F i) S := by
  match j, hj with
  | 0, _ => rfl
  | 1, _ => rfl
  | 2, _ => rfl
  | 3, _ => rfl
  | 4, _ => rfl
  | 5, _ => rfl
  | 6, _ => rfl
/-- the map's entries: key, pointer, number -/
def entH (mb : Nat) (j : Nat) : MapEntry := ⟨.int .i64 (fk j), .pointer (some ⟨mb, fo j, none⟩), j⟩
def esH (mb : Nat) : Array MapEntry := #[entH mb 0, entH mb 1, entH mb 2, entH mb 3, entH mb 4, entH mb 5, entH mb 6]
theorem esH_mem {mb : Nat} {e : MapEntry} (h : e ∈ (esH mb).toList) : ∃ j, j < 7 ∧ e = entH mb j := by
  simp only [esH, List.mem_cons, List.not_mem_nil, or_false] at h
  rcases h with h | h | h | h | h | h | h
  · exact ⟨0, by decide, h⟩
  · exact ⟨1, by decide, h⟩
  · exact ⟨2, by decide, h⟩
  · exact ⟨3, by decide, h⟩
  · exact ⟨4, by decide, h⟩
  · exact ⟨5, by decide, h⟩
  · exact ⟨6, by decide, h⟩
theorem esH_has (mb : Nat) {j : Nat} (hj : j < 7) : entH mb j ∈ (esH mb).toList := by
  simp only [esH, List.mem_cons, List.not_mem_nil, or_false]
  match j, hj with
  | 0, _ => simp
  | 1, _ => simp
  | 2, _ => simp
  | 3, _ => simp
  | 4, _ => simp
  | 5, _ => simp
  | 6, _ => simp
theorem esH_nodup (mb : Nat) : ((esH mb).toList.map (·.born)).Nodup := by simp [esH, entH]
theorem esH_old (mb : Nat) : ∀ x ∈ (esH mb).toList, x.born < 7 := fun x hx => by obtain ⟨j, hj, rfl⟩ := esH_mem hx; exact hj
theorem esH_all {mb : Nat} {seen : Array Nat} (h : (leftOf (esH mb) seen).size = 0) (j : Nat) (hj : j < 7) : seen.contains j = true := all_seen (esH mb) seen h _ (esH_has mb hj)
end Go.Proofs.Ytbpkhnnfdjihdaa
