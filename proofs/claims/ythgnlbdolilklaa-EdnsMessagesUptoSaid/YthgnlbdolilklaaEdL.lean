/- Options in bytes: plain. Nothing of the program. -/
import Derived.Test.YthgnlbdolilklaaJn3
import Derived.Test.YthgnlbdolilklaaEdA
namespace Go.Proofs.Ythgnlbdolilklaa
open Go.RowKit


def optB (o : Opt) : List UInt8 := be16 o.1 ++ (be16 o.2.length ++ o.2)
def rawB (O : List Opt) : List UInt8 := O.flatMap optB
def okO (O : List Opt) : Prop := ∀ o ∈ O, o.1 < 65536 ∧ o.2.length < 65536
/-- the number in the two bytes at a place -/
def cD (l : List UInt8) (p : Nat) : Nat := numL ((l.drop p).take 2)
/-- the options from a place on -/
def prs (l : List UInt8) (p : Nat) : Option (List Opt) :=
  if _h : p < l.length then
    if _h2 : p + 4 + cD l (p + 2) ≤ l.length then (prs l (p + 4 + cD l (p + 2))).map fun O => (cD l p, (l.drop (p + 4)).take (cD l (p + 2))) :: O
    else none
  else some []
termination_by l.length - p
theorem prs_end {l : List UInt8} {p : Nat} (h : l.length ≤ p) : prs l p = some [] := by rw [prs, dif_neg (by omega)]
theorem prs_no {l : List UInt8} {p : Nat} (h : p < l.length) (h2 : l.length < p + 4 + cD l (p + 2)) : prs l p = none := by rw [prs, dif_pos h, dif_neg (by omega)]
theorem prs_one {l : List UInt8} {p : Nat} (h2 : p + 4 + cD l (p + 2) ≤ l.length) : prs l p = (prs l (p + 4 + cD l (p + 2))).map fun O => (cD l p, (l.drop (p + 4)).take (cD l (p + 2))) :: O := by
  rw [prs, dif_pos (by omega), dif_pos h2]
theorem be16_len (n : Nat) : (be16 n).length = 2 := rfl
theorem numL_two (a b : UInt8) : numL [a, b] = a.toNat * 256 + b.toNat := by simp [numL]
theorem be_numL (l : List UInt8) (h : l.length = 2) : be16 (numL l) = l := by
  match l, h with
  | [a, b], _ =>
    rw [numL_two]
    unfold be16
    have ha := a.toNat_lt
    have hb := b.toNat_lt
    have e1 : (a.toNat * 256 + b.toNat) / 256 = a.toNat := by omega
    have e2 : (a.toNat * 256 + b.toNat) % 256 = b.toNat := by omega
    rw [e1, e2]
    simp
theorem cD_lt (l : List UInt8) (p : Nat) : cD l p < 65536 := by
  unfold cD
  have h1 := numL_lt ((l.drop p).take 2)
  have h2 : ((l.drop p).take 2).length ≤ 2 := by simp; omega
  have h3 : 256 ^ ((l.drop p).take 2).length ≤ 256 ^ 2 := Nat.pow_le_pow_right (by decide) h2
  omega
theorem rawB_cons (o : Opt) (r : List Opt) : rawB (o :: r) = be16 o.1 ++ (be16 o.2.length ++ (o.2 ++ rawB r)) := by simp [rawB, optB]
theorem rawB_app (a b : List Opt) : rawB (a ++ b) = rawB a ++ rawB b := by simp [rawB]
theorem rawB_snoc (a : List Opt) (o : Opt) : rawB (a ++ [o]) = rawB a ++ (be16 o.1 ++ (be16 o.2.length ++ o.2)) := by simp [rawB, optB]
theorem rawB_len (O : List Opt) : (rawB O).length = (O.map fun o => 4 + o.2.length).sum := by
  induction O with
  | nil => rfl
  | cons o r ih => rw [rawB_cons]; simp only [List.length_append, be16_len, List.map_cons, List.sum_cons, ih]; omega
theorem rawB_take_le (O : List Opt) (k : Nat) : (rawB (O.take k)).length ≤ (rawB O).length := by
  have : rawB O = rawB (O.take k) ++ rawB (O.drop k) := by rw [← rawB_app, List.take_append_drop]
  rw [this]
  simp
theorem td (l : List UInt8) (p k : Nat) : (l.drop p).take k ++ l.drop (p + k) = l.drop p := by
  have h := List.take_append_drop k (l.drop p)
  rw [List.drop_drop] at h
  first | exact h | (rw [Nat.add_comm]; exact h)
theorem raw_prs : ∀ (n : Nat) (l : List UInt8) (p : Nat) (O : List Opt), l.length - p = n → p ≤ l.length → prs l p = some O → l.drop p = rawB O ∧ okO O := by
  intro n
  induction n using Nat.strongRecOn with
  | ind n ih =>
    intro l p O hn hp h
    by_cases hlt : p < l.length
    · by_cases h2 : p + 4 + cD l (p + 2) ≤ l.length
      · rw [prs_one h2] at h
        simp only [Option.map_eq_some_iff] at h
        obtain ⟨R, hR, rfl⟩ := h
        obtain ⟨q1, q2⟩ := ih _ (by omega) l (p + 4 + cD l (p + 2)) R rfl h2 hR
        have hlen : ((l.drop (p + 4)).take (cD l (p + 2))).length = cD l (p + 2) := by simp; omega
        refine ⟨?_, fun o ho => ?_⟩
        · rw [rawB_cons, ← q1]
          dsimp only
          rw [hlen]
          have b1 : be16 (cD l p) = (l.drop p).take 2 := be_numL _ (by simp; omega)
          have b2 : be16 (cD l (p + 2)) = (l.drop (p + 2)).take 2 := be_numL _ (by simp; omega)
          rw [b1, b2]
          have s1 : (l.drop (p + 4)).take (cD l (p + 2)) ++ l.drop (p + 4 + cD l (p + 2)) = l.drop (p + 4) := td l (p + 4) _
          have s2 : (l.drop (p + 2)).take 2 ++ l.drop (p + 4) = l.drop (p + 2) := td l (p + 2) 2
          have s3 : (l.drop p).take 2 ++ l.drop (p + 2) = l.drop p := td l p 2
          rw [s1, s2, s3]
        · rcases List.mem_cons.1 ho with rfl | ho
          · exact ⟨cD_lt _ _, by dsimp only; rw [hlen]; exact cD_lt _ _⟩
          · exact q2 o ho
      · rw [prs_no hlt (by omega)] at h
        cases h
    · rw [prs_end (by omega)] at h
      cases h
      exact ⟨List.drop_of_length_le (by omega), fun o ho => by cases ho⟩
/-- what is read is what was written -/
theorem raw_of_prs {l : List UInt8} {O : List Opt} (h : prs l 0 = some O) : l = rawB O ∧ okO O := by
  have := raw_prs _ l 0 O rfl (Nat.zero_le _) h
  rwa [List.drop_zero] at this
/-- the head of the numbers: TTL -/
def ttlN (hi ver : Nat) (d : Bool) : Nat := hi * 16777216 + ver * 65536 + (if d then 32768 else 0)
theorem ttl_of (hi ver : Nat) (d : Bool) (h1 : hi < 256) (h2 : ver < 256) : ttlN hi ver d < 4294967296 ∧ ttlN hi ver d % 32768 = 0 ∧ ttlN hi ver d / 16777216 = hi ∧ ttlN hi ver d / 65536 % 256 = ver ∧ (ttlN hi ver d / 32768 % 2 == 1) = d := by
  unfold ttlN
  cases d with
  | true =>
    refine ⟨by simp; omega, by simp; omega, by simp; omega, by simp; omega, ?_⟩
    have : (hi * 16777216 + ver * 65536 + (if true = true then 32768 else 0)) / 32768 % 2 = 1 := by simp; omega
    rw [this]; rfl
  | false =>
    refine ⟨by simp; omega, by simp; omega, by simp; omega, by simp; omega, ?_⟩
    have : (hi * 16777216 + ver * 65536 + (if false = true then 32768 else 0)) / 32768 % 2 = 0 := by simp; omega
    rw [this]; rfl
end Go.Proofs.Ythgnlbdolilklaa
