/- Plain: flights laid in an order, and the order in which they come. -/
import Derived.Test.YthdnbipfdahnlaaNtT
namespace Go.Proofs.Ythdnbipfdahnlaa
open Go Go.RowKit
/-- insertion behind what is not greater -/
def insK {α : Type} (key : α → Int) (x : α) : List α → List α
  | [] => [x]
  | y :: r => if key y ≤ key x then y :: insK key x r else x :: y :: r
def srtK {α : Type} (key : α → Int) (l : List α) : List α := l.foldl (fun A x => insK key x A) []
theorem insK_eq {α : Type} (key : α → Int) (x : α) : ∀ (A : List α) (i : Nat), i ≤ A.length → (∀ (k : Nat) (y : α), k < i → A[k]? = some y → key y ≤ key x) → (∀ (k : Nat) (y : α), i ≤ k → A[k]? = some y → key x < key y) → A.take i ++ [x] ++ A.drop i = insK key x A
  | [], i, hi, _, _ => by
    have : i = 0 := Nat.le_zero.1 hi
    subst this
    rfl
  | y :: r, 0, _, _, h2 => by
    have := h2 0 y (Nat.le_refl _) rfl
    rw [insK, if_neg (by omega)]
    rfl
  | y :: r, i + 1, hi, h1, h2 => by
    have := h1 0 y (Nat.succ_pos _) rfl
    rw [insK, if_pos this, ← insK_eq key x r i (by simpa using hi) (fun k z hk hz => h1 (k + 1) z (by omega) (by simpa using hz)) (fun k z hk hz => h2 (k + 1) z (by omega) (by simpa using hz))]
    rfl
theorem insK_len {α : Type} (key : α → Int) (x : α) : ∀ A : List α, (insK key x A).length = A.length + 1
  | [] => rfl
  | y :: r => by
    rw [insK]
    split
    · simp [insK_len key x r]
    · simp
theorem insK_mem {α : Type} (key : α → Int) (x : α) : ∀ (A : List α) (z : α), z ∈ insK key x A ↔ z = x ∨ z ∈ A
  | [], z => by simp [insK]
  | y :: r, z => by
    rw [insK]
    split
    · rw [List.mem_cons, insK_mem key x r z, List.mem_cons]
      constructor <;> (intro h; rcases h with h | h | h <;> simp [h])
    · simp
theorem insK_map {α β : Type} {key : α → Int} {key' : β → Int} (f : α → β) (x : α) (hx : key' (f x) = key x) : ∀ A : List α, (∀ y ∈ A, key' (f y) = key y) → (insK key x A).map f = insK key' (f x) (A.map f)
  | [], _ => rfl
  | y :: r, h => by
    have hy := h y (by simp)
    rw [insK, List.map_cons, insK, hx, hy]
    split
    · rw [List.map_cons, insK_map f x hx r (fun z hz => h z (by simp [hz]))]
    · rfl
theorem srtK_snoc {α : Type} (key : α → Int) (l : List α) (x : α) : srtK key (l ++ [x]) = insK key x (srtK key l) := by
  unfold srtK
  rw [List.foldl_append]
  rfl
theorem srtK_snocs {α : Type} (key : α → Int) (l m : List α) : srtK key (l ++ m) = m.foldl (fun A x => insK key x A) (srtK key l) := by
  unfold srtK
  rw [List.foldl_append]
theorem foldK_len {α : Type} (key : α → Int) : ∀ (l A : List α), (l.foldl (fun A x => insK key x A) A).length = A.length + l.length
  | [], A => rfl
  | x :: r, A => by
    rw [List.foldl_cons, foldK_len key r, insK_len, List.length_cons]
    omega
theorem srtK_len {α : Type} (key : α → Int) (l : List α) : (srtK key l).length = l.length := by
  unfold srtK
  rw [foldK_len]
  simp
theorem foldK_mem {α : Type} (key : α → Int) : ∀ (l A : List α) (z : α), z ∈ l.foldl (fun A x => insK key x A) A ↔ z ∈ A ∨ z ∈ l
  | [], A, z => by simp
  | x :: r, A, z => by
    rw [List.foldl_cons, foldK_mem key r, insK_mem, List.mem_cons]
    constructor
    · rintro ((h | h) | h)
      · exact .inr (.inl h)
      · exact .inl h
      · exact .inr (.inr h)
    · rintro (h | h | h)
      · exact .inl (.inr h)
      · exact .inl (.inl h)
      · exact .inr h
theorem srtK_mem {α : Type} (key : α → Int) (l : List α) (z : α) : z ∈ srtK key l ↔ z ∈ l := by
  unfold srtK
  rw [foldK_mem]
  simp
theorem foldK_map {α β : Type} {key : α → Int} {key' : β → Int} (f : α → β) : ∀ (l A : List α), (∀ y ∈ A, key' (f y) = key y) → (∀ y ∈ l, key' (f y) = key y) → (l.foldl (fun A x => insK key x A) A).map f = (l.map f).foldl (fun A x => insK key' x A) (A.map f)
  | [], A, _, _ => rfl
  | x :: r, A, hA, hl => by
    have hx := hl x (by simp)
    rw [List.foldl_cons, List.map_cons, List.foldl_cons, ← insK_map f x hx A hA]
    refine foldK_map f r _ (fun y hy => ?_) (fun y hy => hl y (by simp [hy]))
    rcases (insK_mem key x A y).1 hy with rfl | hy
    · exact hx
    · exact hA y hy
theorem srtK_map {α β : Type} {key : α → Int} {key' : β → Int} (f : α → β) (l : List α) (hl : ∀ y ∈ l, key' (f y) = key y) : (srtK key l).map f = srtK key' (l.map f) := by
  unfold srtK
  exact foldK_map f l [] (fun y hy => by cases hy) hl
theorem insU_insK (x : Fl) : ∀ A : List Fl, insU x A = insK (·.at_) x A
  | [] => rfl
  | y :: r => by rw [insU, insK, insU_insK x r]
/-- flights in the order in which they come -/
def srtL (L : List Fl) : List Fl := srtK (·.at_) L
theorem srtL_snoc (L : List Fl) (x : Fl) : srtL (L ++ [x]) = insU x (srtL L) := by
  unfold srtL
  rw [srtK_snoc, insU_insK]
theorem foldU_srt : ∀ (l A : List Fl), SrtA A → SrtA (l.foldl (fun A x => insK (·.at_) x A) A)
  | [], A, h => h
  | x :: r, A, h => by
    rw [List.foldl_cons]
    exact foldU_srt r _ (by rw [← insU_insK]; exact insU_srt x A h)
theorem srtL_srt (L : List Fl) : SrtA (srtL L) := foldU_srt L [] (fun i j _ x y hx => by simp at hx)
theorem insK_last {α : Type} (key : α → Int) (x : α) : ∀ A : List α, (∀ y ∈ A, key y ≤ key x) → insK key x A = A ++ [x]
  | [], _ => rfl
  | y :: r, h => by
    rw [insK, if_pos (h y (by simp)), insK_last key x r (fun z hz => h z (by simp [hz]))]
    rfl
/-- what is in order already stays so -/
theorem srtL_of_srt (L : List Fl) (h : SrtA L) : srtL L = L := by
  have key : ∀ k, k ≤ L.length → srtL (L.take k) = L.take k := by
    intro k
    induction k with
    | zero => intro _; rfl
    | succ k ih =>
      intro hk
      rw [List.take_succ_eq_append_getElem (by omega)]
      unfold srtL at ih ⊢
      rw [srtK_snoc, ih (by omega), insK_last]
      intro y hy
      obtain ⟨j, hj, rfl⟩ := List.getElem_of_mem hy
      rw [List.length_take] at hj
      exact h j k (by omega) _ _ (by rw [List.getElem_take]; exact List.getElem?_eq_getElem (by omega)) (List.getElem?_eq_getElem (by omega))
  have := key L.length (Nat.le_refl _)
  rwa [List.take_length] at this
/-- what is laid under way for a packet -/
def flsF (f : Fate) (h : Hd) (d : List UInt8) (y : Int) : List Fl :=
  if f.1 = 1 then [] else if f.1 = 2 then [⟨y + f.2.1, h, d⟩, ⟨y + f.2.1 + f.2.2, h, d⟩] else if f.1 = 3 then [⟨y + f.2.1, h, flip d f.2.2.toNat⟩] else [⟨y + f.2.1, h, d⟩]
theorem flsF_len (f : Fate) (h : Hd) (d : List UInt8) (y : Int) : (flsF f h d y).length = cntF f := by
  unfold flsF cntF
  split
  · rfl
  · split
    · rfl
    · split <;> rfl
end Go.Proofs.Ythdnbipfdahnlaa
