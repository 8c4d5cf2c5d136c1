/- What the law cuts a joined text into, and how long a noisy text is. -/
import Derived.Test.YtojdjhicjhhblaaDoorSpl
import Derived.Test.YtojdjhicjhhblaaDoorShelf
import Derived.Test.YtojdjhicjhhblaaDoorTlE
namespace Go.Proofs.YtojdjhicjhhblaaDoor
open Go Go.RowKit
/-- the lines of a joined text, as cells -/
structure LinesP (L : List Ent) (n : Nat) (C : List Value) : Prop where
  size : C.length = n
  ge : L.length ≤ n
  le : n ≤ L.length + 1
  at_ : ∀ (i : Nat) (e : Ent), L[i]? = some e → C[i]? = some (.string (mk (ltext e)))
theorem lines_p {L : List Ent} (hok : ∀ e ∈ L, okE e) : LinesP L (Lib.countB (mk (Lib.trimSuffix (jtext L) [10])) ⟨#[10]⟩ + 1) ((Lib.splitB ⟨#[10]⟩ 0 (Lib.countB (mk (Lib.trimSuffix (jtext L) [10])) ⟨#[10]⟩) (mk (Lib.trimSuffix (jtext L) [10]))).map Value.string) := by
  have hs : ∀ b : ByteArray, (Lib.splitB ⟨#[10]⟩ 0 (Lib.countB b ⟨#[10]⟩) b).length = Lib.countB b ⟨#[10]⟩ + 1 := fun b => Lib.splitB_all ⟨#[10]⟩ (by decide) 0 _ b rfl
  have hd := Lib.splitB_data ⟨#[10]⟩ 0 (Lib.countB (mk (Lib.trimSuffix (jtext L) [10])) ⟨#[10]⟩) (mk (Lib.trimSuffix (jtext L) [10]))
  have hc : Lib.countB (mk (Lib.trimSuffix (jtext L) [10])) ⟨#[10]⟩ = (Lib.trimSuffix (jtext L) [10]).count 10 := Lib.count_one 10 (Lib.trimSuffix (jtext L) [10])
  have hd2 : (Lib.splitB ⟨#[10]⟩ 0 (Lib.countB (mk (Lib.trimSuffix (jtext L) [10])) ⟨#[10]⟩) (mk (Lib.trimSuffix (jtext L) [10]))).map (fun b => b.data.toList) = Lib.splitK [10] 0 (Lib.countB (mk (Lib.trimSuffix (jtext L) [10])) ⟨#[10]⟩) (Lib.trimSuffix (jtext L) [10]) := hd
  refine ⟨by rw [List.length_map, hs], ?_, ?_, ?_⟩
  · cases L with
    | nil => simp
    | cons x r =>
      have h1 := count_jl ((x :: r).map ltext) (fun y hy => by obtain ⟨e, he, rfl⟩ := List.mem_map.1 hy; exact ltext_no (hok e he)) (by simp)
      rw [hc, trim_jl _ (by simp)]
      rw [h1]; simp
  · cases L with
    | nil => rw [hc]; decide
    | cons x r =>
      have h1 := count_jl ((x :: r).map ltext) (fun y hy => by obtain ⟨e, he, rfl⟩ := List.mem_map.1 hy; exact ltext_no (hok e he)) (by simp)
      rw [hc, trim_jl _ (by simp)]
      rw [h1]; simp
  · intro i e he
    have hne : L ≠ [] := by rintro rfl; simp at he
    have hno : ∀ x ∈ L.map ltext, ∀ b ∈ x, ¬ b = 10 := fun y hy => by obtain ⟨e, he, rfl⟩ := List.mem_map.1 hy; exact ltext_no (hok e he)
    have h1 := count_jl (L.map ltext) hno (by simpa using hne)
    have h2 : Lib.splitK [10] 0 (Lib.countB (mk (Lib.trimSuffix (jtext L) [10])) ⟨#[10]⟩) (Lib.trimSuffix (jtext L) [10]) = L.map ltext := by
      rw [hc, trim_jl L hne]
      exact split_jl (L.map ltext) _ hno h1.symm
    rw [h2] at hd2
    generalize Lib.splitB ⟨#[10]⟩ 0 (Lib.countB (mk (Lib.trimSuffix (jtext L) [10])) ⟨#[10]⟩) (mk (Lib.trimSuffix (jtext L) [10])) = B at hd2
    have h3 : (B.map (fun b => b.data.toList))[i]? = some (ltext e) := by rw [hd2, List.getElem?_map, he]; rfl
    rw [List.getElem?_map] at h3
    obtain ⟨b, hb, hb2⟩ := Option.map_eq_some_iff.1 h3
    rw [List.getElem?_map, hb]
    show some (Value.string b) = _
    rw [← hb2]
    exact congrArg (fun x => some (Value.string x)) (mk_bs b).symm
theorem ntext_app (rk : List UInt8) : ∀ (a : List Ent) (e : Ent), ntext rk (a ++ [e]) = ntext rk a ++ nz e rk
  | [], e => by simp [ntext]
  | x :: a, e => by simp only [List.cons_append, ntext, ntext_app rk a e, List.append_assoc]
theorem ntext_len (rk : List UInt8) : ∀ L : List Ent, (ntext rk L).length ≤ (jtext L).length + L.length * (13 + 2 * rk.length)
  | [] => by simp [ntext]
  | e :: r => by
    have ih := ntext_len rk r
    have h1 : (ntext rk (e :: r)).length = (nz e rk).length + (ntext rk r).length := by simp only [ntext, List.length_append]
    have h2 : (jtext (e :: r)).length = (ltext e).length + 1 + (jtext r).length := by simp only [jtext, etext, List.length_append, List.length_cons, List.length_nil]
    have h3 : (nz e rk).length ≤ (ltext e).length + 14 + 2 * rk.length := by
      unfold nz
      simp only [List.length_append, List.length_cons, List.length_nil]
      have : (if e.blank = true then ([32] : List UInt8) else []).length ≤ 1 := by split <;> simp
      omega
    rw [h1, h2, List.length_cons, Nat.add_mul]
    omega
/-- the noisy text fits -/
theorem ntext_fits {L : List Ent} {rk : List UInt8} (h1 : L.length ≤ 30) (h2 : ∀ e ∈ L, e.words.length ≤ 66) (h3 : tlen L ≤ 2000) (hr : rk.length ≤ 300) : (ntext rk L).length ≤ 40000 := by
  have a := ntext_len rk L
  have b := jtext_len h2
  have c : L.length * (13 + 2 * rk.length) ≤ 30 * (13 + 2 * 300) := Nat.mul_le_mul h1 (by omega)
  have d : L.length * (3 * 66 + 2) ≤ 30 * (3 * 66 + 2) := Nat.mul_le_mul_right _ h1
  omega
theorem ntext_take (rk : List UInt8) : ∀ (L : List Ent) (k : Nat), (ntext rk (L.take k)).length ≤ (ntext rk L).length
  | [], k => by simp
  | e :: r, 0 => by simp [ntext]
  | e :: r, k + 1 => by
    have ih := ntext_take rk r k
    simp only [List.take_succ_cons, ntext, List.length_append]; omega
theorem ltext_len {L : List Ent} {e : Ent} (h : e ∈ L) : (ltext e).length ≤ (jtext L).length := by
  induction L with
  | nil => cases h
  | cons x r ih =>
    have h2 : (jtext (x :: r)).length = (ltext x).length + 1 + (jtext r).length := by simp only [jtext, etext, List.length_append, List.length_cons, List.length_nil]
    rcases List.mem_cons.1 h with rfl | h
    · omega
    · have := ih h; omega
/-- what the law adds for one entry -/
theorem noisy_add (A h l r : List UInt8) : mk A ++ (((((((mk h ++ ⟨#[40, 32]⟩) ++ mk l) ++ ⟨#[32, 59]⟩) ++ mk r) ++ ⟨#[10, 10, 32, 41, 32, 32, 59]⟩) ++ mk r) ++ ⟨#[10, 10]⟩) = mk (A ++ (h ++ ([40, 32] ++ (l ++ ([32, 59] ++ (r ++ ([10, 10, 32, 41, 32, 32, 59] ++ (r ++ [10, 10])))))))) := by
  have e1 : (⟨#[40, 32]⟩ : ByteArray) = mk [40, 32] := rfl
  have e2 : (⟨#[32, 59]⟩ : ByteArray) = mk [32, 59] := rfl
  have e3 : (⟨#[10, 10, 32, 41, 32, 32, 59]⟩ : ByteArray) = mk [10, 10, 32, 41, 32, 32, 59] := rfl
  have e4 : (⟨#[10, 10]⟩ : ByteArray) = mk [10, 10] := rfl
  rw [e1, e2, e3, e4]
  simp only [mk_append, List.append_assoc]
theorem trim_any (w : World) (L : List Ent) (hl : (jtext L).length ≤ 65536) : Calls Tryd.prog 9 #[.string (mk (jtext L)), .string ⟨#[10]⟩] w fun e w' => e = .returned (.string (mk (Lib.trimSuffix (jtext L) [10]))) ∧ w' = w :=
  Tryd.strings_TrimSuffix (mk (jtext L)) ⟨#[10]⟩ w (by rw [size_mk]; omega)
def SplP (L : List Ent) (w : World) (e : Ending) (w' : World) : Prop := ∃ n C, e = .returned (.slice (some ⟨w.heap.size, 0, none⟩) n n) ∧ LinesP L n C ∧ Below w.heap.size w w' ∧ Blk w' w.heap.size 9 (0, 0) C
theorem split_any (w : World) (L : List Ent) {m : Int} (hm : w.cell? ⟨0, 0, none⟩ = some (.int .i64 m)) (hok : ∀ e ∈ L, okE e) (hl : (jtext L).length ≤ 65536) : Calls Tryd.prog 8 #[.string (mk (Lib.trimSuffix (jtext L) [10])), .string ⟨#[10]⟩] w (SplP L w) := by
  have ht : (Lib.trimSuffix (jtext L) [10]).length ≤ (jtext L).length := by
    unfold Lib.trimSuffix; split
    · rw [List.length_take]; omega
    · exact Nat.le_refl _
  refine (Tryd.strings_Split (mk (Lib.trimSuffix (jtext L) [10])) ⟨#[10]⟩ m w (by rw [size_mk]; omega) hm (by decide)).mono ?_
  rintro e w' ⟨rfl, rfl⟩
  refine ⟨_, _, rfl, lines_p hok, (Below.refl _ _).alloc (Nat.le_refl _) _, ?_⟩
  have := Blk.new w 9 (0, 0) ((Lib.splitB ⟨#[10]⟩ 0 (Lib.countB (mk (Lib.trimSuffix (jtext L) [10])) ⟨#[10]⟩) (mk (Lib.trimSuffix (jtext L) [10]))).map Value.string).toArray
  simpa using this
end Go.Proofs.YtojdjhicjhhblaaDoor
