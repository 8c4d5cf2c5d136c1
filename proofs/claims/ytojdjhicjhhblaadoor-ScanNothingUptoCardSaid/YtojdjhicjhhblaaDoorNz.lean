/- A remark, blanks, empty lines and brackets around an entry change no word: what a noisy text reads as. -/
import Derived.Test.YtojdjhicjhhblaaDoorScV
namespace Go.Proofs.YtojdjhicjhhblaaDoor
open Go Go.RowKit
def nz (e : Ent) (rk : List UInt8) : List UInt8 := (if e.blank then [32] else []) ++ ([40, 32] ++ (ltext e ++ ([32, 59] ++ (rk ++ ([10, 10, 32, 41, 32, 32, 59] ++ (rk ++ [10, 10]))))))
def ntext (rk : List UInt8) : List Ent → List UInt8
  | [] => []
  | e :: r => nz e rk ++ ntext rk r
def nlines : Int → List Ent → List Ent
  | _, [] => []
  | l, e :: r => ⟨l, e.blank, e.words⟩ :: nlines (l + 4) r
theorem rem_run {tot : Int} {r : List UInt8} : ∀ (rk : List UInt8) (c : Sc), (∀ b ∈ rk, ¬ b = 10) → c.fresh = false → c.st = 4 → prun tot (rk ++ r) c = prun tot r c
  | [], c, _, _, _ => rfl
  | b :: rk, c, h, hf, h4 => by
    rw [List.cons_append, prun_rem (by rw [see_not hf]; exact h4) (h b (by simp)), see_not hf]
    exact rem_run rk c (fun x hx => h x (List.mem_cons_of_mem _ hx)) hf h4
/-- one step over a byte that ends words, the state laid open -/
theorem stop_run {tot : Int} {b : UInt8} {r : List UInt8} {c c2 : Sc} (hs : stopB b = true) (hf : c.fresh = false) (h4 : ¬ c.st = 4) (h2 : ¬ c.st = 2) (h1 : ¬ c.st = 1) (he : c.mark b = .ok c2) : prun tot (b :: r) c = prun tot r c2 := by
  refine prun_stop (by rw [see_not hf]; exact h4) (by rw [see_not hf]; exact h2) hs ?_
  rw [see_not hf, ends_mark _ _ (fun h => h1 h), he]
theorem nz_run {tot : Int} {e : Ent} {rk r : List UInt8} {c : Sc} (he : okE e) (hr : ∀ b ∈ rk, ¬ b = 10) (h0 : c.st = 0) (hd : c.deep = 0) (hf : c.fresh = true) (hw : c.words = []) :
    ∃ cur bg, prun tot (nz e rk ++ r) c = prun tot r { c with out := c.out ++ [⟨c.line, e.blank, e.words⟩], line := c.line + 4, eline := 0, blank := false, words := [], cur := cur, begun := bg } := by
  obtain ⟨line, st, deep, cur, begun, eline, blank, words, fresh, out⟩ := c
  dsimp only at h0 hd hf hw
  subst h0; subst hd; subst hf; subst hw
  obtain ⟨w1, w2, w3⟩ := he
  have head : ∀ X, prun tot ((if e.blank then [32] else []) ++ (40 :: X)) ⟨line, 0, 0, cur, begun, eline, blank, [], true, out⟩ = prun tot X ⟨line, 0, 1, cur, begun, eline, e.blank, [], false, out⟩ := by
    intro X
    cases hb : e.blank with
    | true =>
      show prun tot (32 :: 40 :: X) _ = _
      rw [space_run rfl]
      exact stop_run (b := 40) rfl rfl (by simp [Sc.see]) (by simp [Sc.see]) (by simp [Sc.see]) rfl
    | false =>
      show prun tot (40 :: X) _ = _
      exact prun_stop (by simp [Sc.see]) (by simp [Sc.see]) (by decide) rfl
  have lead : ∀ X, prun tot ((if e.blank then [32] else []) ++ X) ⟨line, 0, 1, cur, begun, eline, e.blank, [], false, out⟩ = prun tot X ⟨line, 0, 1, cur, begun, eline, e.blank, [], false, out⟩ := by
    intro X
    cases hb : e.blank with
    | true => exact stop_run (b := 32) rfl rfl (by simp) (by simp) (by simp) rfl
    | false => rfl
  have e1 : nz e rk ++ r = (if e.blank then [32] else []) ++ (40 :: 32 :: ((if e.blank then [32] else []) ++ (wtext e.words ++ (32 :: 59 :: (rk ++ (10 :: 10 :: 32 :: 41 :: 32 :: 32 :: 59 :: (rk ++ (10 :: 10 :: r)))))))) := by
    unfold nz ltext
    simp only [List.append_assoc, List.cons_append, List.nil_append]
  rw [e1, head, stop_run (b := 32) (c2 := ⟨line, 0, 1, cur, begun, eline, e.blank, [], false, out⟩) rfl rfl (by simp) (by simp) (by simp) rfl, lead]
  obtain ⟨cu, hc⟩ := wtext_run (tot := tot) e.words (32 :: 59 :: (rk ++ (10 :: 10 :: 32 :: 41 :: 32 :: 32 :: 59 :: (rk ++ (10 :: 10 :: r))))) ⟨line, 0, 1, cur, begun, eline, e.blank, [], false, out⟩ w2 w1 rfl rfl (by simpa using w3)
  refine ⟨cu, line, ?_⟩
  rw [hc]
  have e2 : (⟨line, 0, 1, cur, begun, eline, e.blank, [], false, out⟩ : Sc).after e.words cu line = ⟨line, 0, 1, cu, line, line, e.blank, e.words, false, out⟩ := by unfold Sc.after; rfl
  have ew : e.words.isEmpty = false := by cases h : e.words with | nil => exact absurd h w2 | cons a q => rfl
  rw [e2]
  rw [stop_run (b := 32) (c2 := ⟨line, 0, 1, cu, line, line, e.blank, e.words, false, out⟩) rfl rfl (by simp) (by simp) (by simp) rfl,
    stop_run (b := 59) (c2 := ⟨line, 4, 1, cu, line, line, e.blank, e.words, false, out⟩) rfl rfl (by simp) (by simp) (by simp) rfl,
    rem_run rk _ hr rfl rfl,
    prun_reml (c2 := ⟨line + 1, 0, 1, cu, line, line, e.blank, e.words, false, out⟩) rfl rfl,
    stop_run (b := 10) (c2 := ⟨line + 1 + 1, 0, 1, cu, line, line, e.blank, e.words, false, out⟩) rfl rfl (by simp) (by simp) (by simp) rfl,
    stop_run (b := 32) (c2 := ⟨line + 1 + 1, 0, 1, cu, line, line, e.blank, e.words, false, out⟩) rfl rfl (by simp) (by simp) (by simp) rfl,
    stop_run (b := 41) (c2 := ⟨line + 1 + 1, 0, 0, cu, line, line, e.blank, e.words, false, out⟩) rfl rfl (by simp) (by simp) (by simp) rfl,
    stop_run (b := 32) (c2 := ⟨line + 1 + 1, 0, 0, cu, line, line, e.blank, e.words, false, out⟩) rfl rfl (by simp) (by simp) (by simp) rfl,
    stop_run (b := 32) (c2 := ⟨line + 1 + 1, 0, 0, cu, line, line, e.blank, e.words, false, out⟩) rfl rfl (by simp) (by simp) (by simp) rfl,
    stop_run (b := 59) (c2 := ⟨line + 1 + 1, 4, 0, cu, line, line, e.blank, e.words, false, out⟩) rfl rfl (by simp) (by simp) (by simp) rfl,
    rem_run rk _ hr rfl rfl]
  have e3 : (⟨line + 1 + 1, 4, 0, cu, line, line, e.blank, e.words, false, out⟩ : Sc).ends 10 = .ok ⟨line + 1 + 1 + 1, 0, 0, cu, line, 0, false, [], true, out ++ [⟨line, e.blank, e.words⟩]⟩ := by
    show Except.ok { (⟨line + 1 + 1, 0, 0, cu, line, line, e.blank, e.words, false, out⟩ : Sc).entry with line := line + 1 + 1 + 1 } = _
    unfold Sc.entry
    simp [ew]
  rw [prun_reml (c := ⟨line + 1 + 1, 4, 0, cu, line, line, e.blank, e.words, false, out⟩) rfl e3, prun_stop (c2 := ⟨line + 1 + 1 + 1 + 1, 0, 0, cu, line, 0, false, [], true, out ++ [⟨line, e.blank, e.words⟩]⟩) (by simp [Sc.see]) (by simp [Sc.see]) (by decide) rfl]
  have e4 : line + 1 + 1 + 1 + 1 = line + 4 := by omega
  rw [e4]
theorem ntext_run {tot : Int} {rk : List UInt8} (hr : ∀ b ∈ rk, ¬ b = 10) : ∀ (L : List Ent) (c : Sc), (∀ e ∈ L, okE e) → c.st = 0 → c.deep = 0 → c.fresh = true → c.words = [] → prun tot (ntext rk L) c = (c.out ++ nlines c.line L, (0, 0))
  | [], c, _, h0, hd, hf, hw => by
    show pend tot c = _
    unfold pend
    rw [if_neg (by omega)]
    simp [h0, hd, Sc.entry, hw, nlines]
  | e :: L, c, hl, h0, hd, hf, hw => by
    obtain ⟨cur, bg, h⟩ := nz_run (tot := tot) (r := ntext rk L) (hl e (by simp)) hr h0 hd hf hw
    show prun tot (nz e rk ++ ntext rk L) c = _
    rw [h, ntext_run hr L _ (fun x hx => hl x (List.mem_cons_of_mem _ hx)) (by exact h0) (by exact hd) (by exact hf) rfl]
    simp [nlines]
theorem ntext_read {rk : List UInt8} (hr : ∀ b ∈ rk, ¬ b = 10) (L : List Ent) (hl : ∀ e ∈ L, okE e) (hs : (ntext rk L).length ≤ 65536) : pEnt (ntext rk L) = (nlines 1 L, (0, 0)) := by
  unfold pEnt
  rw [if_neg (by omega), ntext_run hr L sc0 hl rfl rfl rfl rfl]
  rfl
theorem nlines_len : ∀ (L : List Ent) (l : Int), (nlines l L).length = L.length
  | [], _ => rfl
  | e :: r, l => by simp only [nlines, List.length_cons, nlines_len r (l + 4)]
theorem nlines_get : ∀ (L : List Ent) (l : Int) (i : Nat) (e : Ent), L[i]? = some e → ∃ k, (nlines l L)[i]? = some ⟨k, e.blank, e.words⟩
  | [], l, i, e, h => by simp at h
  | x :: r, l, 0, e, h => by simp at h; subst h; exact ⟨l, rfl⟩
  | x :: r, l, i + 1, e, h => by
    obtain ⟨k, hk⟩ := nlines_get r (l + 4) i e (by simpa using h)
    exact ⟨k, by simpa [nlines] using hk⟩
end Go.Proofs.YtojdjhicjhhblaaDoor
