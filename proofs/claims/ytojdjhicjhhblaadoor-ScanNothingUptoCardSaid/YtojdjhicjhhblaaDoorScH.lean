/- The scanner as it lies, and what entry and word do to it. -/
import Derived.Test.YtojdjhicjhhblaaDoorScG
namespace Go.Proofs.YtojdjhicjhhblaaDoor
open Go Go.RowKit
structure SV where
  frm : Nat
  wa : Option Addr
  wn : Nat
  wc : Nat
  oa : Option Addr
  on : Nat
  oc : Nat
  eds : List ED
  m : Nat
/-- an entry that is done: its words lie below m -/
def EntD (w : World) (B m : Nat) (d : ED) (e : Ent) : Prop :=
  d.line = e.line ∧ d.blank = e.blank ∧ Own trE w B (.slice d.wa d.wn d.wc) e.words ∧ ∀ k, (Value.slice d.wa d.wn d.wc).ownBlock = some k → k < m
def Ents (w : World) (B m : Nat) (eds : List ED) (out : List Ent) : Prop :=
  eds.length = out.length ∧ ∀ (j : Nat) (d : ED) (e : Ent), eds[j]? = some d → out[j]? = some e → EntD w B m d e
theorem Ents.nil (w : World) (B m : Nat) : Ents w B m [] [] := ⟨rfl, fun j d e h => by simp at h⟩
theorem Ents.mono {w : World} {B m m' : Nat} {D : List ED} {L : List Ent} (h : Ents w B m D L) (hm : m ≤ m') : Ents w B m' D L :=
  ⟨h.1, fun j d e hd he => ⟨(h.2 j d e hd he).1, (h.2 j d e hd he).2.1, (h.2 j d e hd he).2.2.1, fun k hk => Nat.lt_of_lt_of_le ((h.2 j d e hd he).2.2.2 k hk) hm⟩⟩
/-- the entries are as they were where no block of words below m changes -/
theorem Ents.keep {w w' : World} {B m : Nat} {D : List ED} {L : List Ent} (h : Ents w B m D L) (hk : ∀ k C, k < m → Blk w k 44 (0, 0) C → w'.heap[k]? = w.heap[k]?) : Ents w' B m D L :=
  ⟨h.1, fun j d e hd he => ⟨(h.2 j d e hd he).1, (h.2 j d e hd he).2.1, (h.2 j d e hd he).2.2.1.keep fun k hb => by
    obtain ⟨C, hC⟩ := own_blkE (h.2 j d e hd he).2.2.1 k hb
    exact hk k C ((h.2 j d e hd he).2.2.2 k hb) hC, (h.2 j d e hd he).2.2.2⟩⟩
theorem Ents.app {w : World} {B m : Nat} {D : List ED} {L : List Ent} (h : Ents w B m D L) {d : ED} {e : Ent} (he : EntD w B m d e) : Ents w B m (D ++ [d]) (L ++ [e]) := by
  refine ⟨by rw [List.length_append, List.length_append, h.1]; rfl, fun j d' e' h1 h2 => ?_⟩
  by_cases hj : j < D.length
  · rw [List.getElem?_append_left hj] at h1
    rw [List.getElem?_append_left (by rw [← h.1]; exact hj)] at h2
    exact h.2 j d' e' h1 h2
  · rw [List.getElem?_append_right (by omega)] at h1
    rw [List.getElem?_append_right (by rw [← h.1]; omega), ← h.1] at h2
    have h3 : j - D.length = 0 := by
      rcases Nat.eq_zero_or_pos (j - D.length) with h | h
      · exact h
      · rw [List.getElem?_eq_none (by simp; omega)] at h1; cases h1
    rw [h3] at h1 h2
    cases h1; cases h2
    exact he
def scC (s : List UInt8) (c : Sc) (q : SV) : List Value :=
  [.string (mk s), .int .i64 c.line, .int .u8 c.st, .int .i64 c.deep, .int .i64 q.frm, .int .i64 c.begun, .int .i64 c.eline, .bool c.blank, .slice q.wa q.wn q.wc, .bool c.fresh, .slice q.oa q.on q.oc, .int .i64 0, .int .i64 0]
structure SM (B g : Nat) (s : List UInt8) (i : Nat) (c : Sc) (q : SV) (w : World) : Prop where
  hB : B ≤ g
  blk : Blk w g 62 (0, 0) (scC s c q)
  words : Own trE w q.m (.slice q.wa q.wn q.wc) c.words
  wl : c.words.length = q.wn
  out : Own enE w B (.slice q.oa q.on q.oc) q.eds
  ol : q.eds.length = q.on
  ents : Ents w B q.m q.eds c.out
  lo : B ≤ q.m
  hi : q.m ≤ w.heap.size
  cur : c.st = 1 ∨ c.st = 2 → q.frm ≤ i ∧ c.cur = (s.take i).drop q.frm
theorem keep_g {w w' : World} {g : Nat} {C0 : List Value} (hb : Blk w g 62 (0, 0) C0) (h : w.grownBy w' (some g)) {k : Nat} {t : TypeId} (ht : t ≠ 62) {C : List Value} (hC : Blk w k t (0, 0) C) : w'.heap[k]? = w.heap[k]? :=
  h.block k hC.lt (fun e => ht (by have e2 := Option.some.inj e; subst e2; exact blk_type hC hb))
theorem keep_o {α : Type} {E : Enc α} {w w' : World} {base : Nat} {v : Value} {l : List α} (ho : Own E w base v l) (h : w.grownBy w' v.ownBlock) {k : Nat} {t : TypeId} (ht : t ≠ E.e) {C : List Value} (hC : Blk w k t (0, 0) C) : w'.heap[k]? = w.heap[k]? :=
  h.block k hC.lt (fun e => by
    obtain ⟨C', hC'⟩ := own_blkE ho k e.symm
    exact ht (blk_type hC hC'))
theorem entry_sm {B g : Nat} {s : List UInt8} {i : Nat} {c : Sc} {q : SV} {w : World} (h : SM B g s i c q w) (hout : c.out.length ≤ 65600) :
    Calls Tryd.prog 46 #[.pointer (some ⟨g, 0, none⟩)] w fun e w' => e = .returned (.tuple #[]) ∧ Below B w w' ∧ ∃ q', SM B g s i c.entry q' w' := by
  obtain ⟨line, st, deep, cur, begun, eline, blank, words, fresh, out⟩ := c
  obtain ⟨frm, wa, wn, wc, oa, on, oc, eds, m⟩ := q
  obtain ⟨hB, blk, hw, wl, ho, ol, ents, lo, hi, hcur⟩ := h
  dsimp only at *
  unfold scC at blk
  dsimp only at blk
  have hBw : B ≤ w.heap.size := Nat.le_trans lo hi
  cases words with
  | nil =>
    have wn0 : wn = 0 := wl.symm
    subst wn0
    refine (entry_none blk).mono ?_
    rintro e w' ⟨rfl, hg, hB2⟩
    refine ⟨rfl, (Below.refl B w).grown hg hBw (fun k hk => by cases hk; exact hB), ⟨frm, none, 0, 0, oa, on, oc, eds, m⟩, hB, hB2, Own.nil _ _ _, rfl, own_store ho blk (by decide) hg, ol, ?_, lo, Nat.le_trans hi hg.size, hcur⟩
    show Ents w' B m eds out
    exact ents.keep fun k C _ hC => keep_g blk hg (by decide) hC
  | cons x r =>
    have hw0 : 0 < wn := by rw [← wl]; simp
    have hon : on ≤ 70000 := by have := ents.1; omega
    refine (entry_some blk ho ol hBw hon hw0).mono ?_
    rintro e w' ⟨rfl, a, c, V, hg1, hg2, hB2, hO2⟩
    have bV : Blk V g 62 (0, 0) _ := blk_own blk ho (by decide) hg1
    have b1 : Below B w V := own_below (Below.refl B w) hg1 ho hBw (Nat.le_refl _)
    have b2 : Below B w w' := b1.grown hg2 (Nat.le_trans hBw hg1.size) (fun k hk => by cases hk; exact hB)
    have hk : ∀ k C, Blk w k 44 (0, 0) C → w'.heap[k]? = w.heap[k]? := fun k C hC => by
      have e1 := keep_o ho hg1 (t := 44) (by decide) hC
      rw [keep_g bV hg2 (t := 44) (by decide) (C := C) (e1.trans hC), e1]
    refine ⟨rfl, b2, ⟨frm, none, 0, 0, a, on + 1, c, eds ++ [⟨eline, blank, wa, wn, wc⟩], w.heap.size⟩, hB, hB2, Own.nil _ _ _, rfl, hO2, by rw [List.length_append, ol]; rfl, ?_, hBw, b2.size, hcur⟩
    show Ents w' B w.heap.size _ (out ++ [⟨eline, blank, x :: r⟩])
    refine ((ents.mono hi).keep fun k C _ hC => hk k C hC).app ⟨rfl, rfl, ?_, ?_⟩
    · refine (hw.mono lo).keep fun k hb => ?_
      obtain ⟨C, hC⟩ := own_blkE hw k hb
      exact hk k C hC
    · exact fun k hb => (hw.lt k hb).2
end Go.Proofs.YtojdjhicjhhblaaDoor
