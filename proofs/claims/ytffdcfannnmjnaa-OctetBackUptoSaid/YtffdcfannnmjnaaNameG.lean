/- Layer 3: names folded; the verifier's kit on texts: Lent, Kept, Over. -/
import Derived.Test.YtffdcfannnmjnaaNameF
import Derived.Test.YtffdcfannnmjnaaKitC
namespace Go.Proofs.Ytffdcfannnmjnaa
open Go.RowKit
theorem lit_rd (w : World) (s : List UInt8) : Rd strE (w.alloc (.cells #[.string (mk s)] 9)) (some ⟨w.heap.size, 0, none⟩) 1 1 [s] := by
  refine ⟨rfl, Nat.le_refl _, by decide, fun j hj i hi => ⟨w.heap.size, 0, rfl, ?_⟩⟩
  have h1 : j = 0 := by simp at hj; exact hj
  have h2 : i = 0 := by have : strE.k = 1 := rfl; omega
  subst h1 h2
  rw [World.cell?_alloc_mark]; rfl
set_option maxHeartbeats 2000000 in
set_option maxRecDepth 100000 in
theorem foldN_any {M : Nat} {w : World} {a : Option Addr} {n c : Nat} {l : Nm} (h : Rd strE w a n c l) (hn : n ≤ 1099511627776) (hM : ∀ s ∈ l, s.length ≤ M) (hs : ∀ s ∈ l, s.length ≤ 1099511627776) :
    Calls Try.prog 90 #[.slice a n c] w fun e w' => (∃ v, e = .returned v ∧ OwnT M w' w.heap.size v (l.map foldL)) ∧ Below w.heap.size w w' := by
  have hl := h.len
  subst hl
  have hH := Lib.hid h
  clear h
  go_enter Try.func90, Try.ntmps90
  go_wp2_with fail
  go_loopw [3, 8] (fun o i wr => ∃ k : Nat, k ≤ l.length ∧ i = .int .i64 k ∧ OwnT M wr w.heap.size o ((l.take k).map foldL) ∧ Below w.heap.size w wr)
    (fun _ i _ => l.length - (intOf i).toNat)
  case atStart => exact ⟨0, Nat.zero_le _, rfl, OwnT.nil _ _ _, Below.refl _ _⟩
  case round =>
    obtain ⟨k, hk, rfl, ho, hb⟩ := hrel
    obtain ⟨a1, cap1, rfl⟩ := ho.shape
    have hlen : ((l.take k).map foldL).length = k := by simp; omega
    rw [hlen] at ho ⊢
    have ho' := Lib.hid ho
    clear ho hlen
    by_cases hlt : k < l.length
    · obtain ⟨b, o, rfl, hcs⟩ := rd_str (hH.out.ext hb) (by omega)
      have hck := hcs k hlt
      have hX1 := hM _ (List.getElem_mem hlt)
      have hX2 := hs _ (List.getElem_mem hlt)
      have e1 : (l.take (k + 1)).map foldL = (l.take k).map foldL ++ [foldL l[k]] := by rw [List.take_succ_eq_append_getElem hlt, List.map_append]; rfl
      have e1' := Lib.hid e1
      clear hcs e1
      generalize hX : l[k] = X at *
      go_wp2_with fail
      refine (fold_any X _ (by omega)).mono ?_
      rintro e w2 ⟨rfl, hb2⟩
      have hb3 : Below w.heap.size w w2 := hb.trans (hb2.mono hb.size)
      have ho2 := Lib.hid ((ho'.out.ext hb2).ext ((Below.refl _ _).alloc (Nat.le_refl _) (.cells #[.string (mk (foldL X))] 9)))
      have hr2 := Lib.hid (lit_rd w2 (foldL X))
      have hb4 : Below w.heap.size w (w2.alloc (.cells #[.string (mk (foldL X))] 9)) := hb3.alloc hb3.size _
      go_wp2_with (at_builtin; refine app_ownT rfl (.tmp 12) (.tmp 15) 49 49 rfl Try.underlying49 Try.underlying49 rfl ho2.out rfl hr2.out ?c1 ?c2 hb4.size ?_)
      case c1 => intro s hs; simp at hs; subst hs; rw [length_foldL]; exact hX1
      case c2 => simp; omega
      intro v' w3 h3 hg _
      obtain ⟨a3, cap3, hv3⟩ := h3.shape
      subst hv3
      have h3' := Lib.hid h3
      have hb5 : Below w.heap.size w w3 := own_below hb4 hg ho2.out.own hb4.size (Nat.le_refl _)
      clear h3
      go_wp2_with fail
      go_roundw
      case rel => exact ⟨k + 1, by omega, by go_num, by rw [e1'.out, List.map_take]; exact h3'.out, hb5⟩
      case measure => simp [intOf]; omega
    · have hk' : k = l.length := by omega
      subst hk'
      go_wp2_with fail
      go_ret
      exact ⟨⟨_, rfl, by have := ho'.out; rw [List.take_length] at this; exact this⟩, hb⟩
set_option maxHeartbeats 2000000 in
set_option maxRecDepth 100000 in
theorem rfoldN_any {M : Nat} {w : World} {a : Option Addr} {n c : Nat} {l : Nm} (h : Rd strE w a n c l) (hn : n ≤ 1099511627776) (hM : ∀ s ∈ l, s.length ≤ M) (hs : ∀ s ∈ l, s.length ≤ 1099511627776) :
    Calls Try.prog 91 #[.slice a n c] w fun e w' => (∃ v, e = .returned v ∧ OwnT M w' w.heap.size v (l.map foldL)) ∧ Below w.heap.size w w' := by
  have hl := h.len
  subst hl
  have hH := Lib.hid h
  clear h
  go_enter Try.func91, Try.ntmps91
  go_wp2_with fail
  go_loopw [3, 4] (fun o i wr => ∃ k : Nat, k ≤ l.length ∧ i = .int .i64 k ∧ OwnT M wr w.heap.size o ((l.take k).map foldL) ∧ Below w.heap.size w wr)
    (fun _ i _ => l.length - (intOf i).toNat)
  case atStart => exact ⟨0, Nat.zero_le _, rfl, OwnT.nil _ _ _, Below.refl _ _⟩
  case round =>
    obtain ⟨k, hk, rfl, ho, hb⟩ := hrel
    obtain ⟨a1, cap1, rfl⟩ := ho.shape
    have hlen : ((l.take k).map foldL).length = k := by simp; omega
    rw [hlen] at ho ⊢
    have ho' := Lib.hid ho
    clear ho hlen
    by_cases hlt : k < l.length
    · obtain ⟨b, o, rfl, hcs⟩ := rd_str (hH.out.ext hb) (by omega)
      have hck := hcs k hlt
      have hX1 := hM _ (List.getElem_mem hlt)
      have hX2 := hs _ (List.getElem_mem hlt)
      have e1 : (l.take (k + 1)).map foldL = (l.take k).map foldL ++ [foldL l[k]] := by rw [List.take_succ_eq_append_getElem hlt, List.map_append]; rfl
      have e1' := Lib.hid e1
      clear hcs e1
      generalize hX : l[k] = X at *
      go_wp2_with fail
      refine (refFold_any X _ (by omega)).mono ?_
      rintro e w2 ⟨rfl, hb2⟩
      have hb3 : Below w.heap.size w w2 := hb.trans (hb2.mono hb.size)
      have ho2 := Lib.hid ((ho'.out.ext hb2).ext ((Below.refl _ _).alloc (Nat.le_refl _) (.cells #[.string (mk (foldL X))] 9)))
      have hr2 := Lib.hid (lit_rd w2 (foldL X))
      have hb4 : Below w.heap.size w (w2.alloc (.cells #[.string (mk (foldL X))] 9)) := hb3.alloc hb3.size _
      go_wp2_with (at_builtin; refine app_ownT rfl (.tmp 11) (.tmp 17) 49 49 rfl Try.underlying49 Try.underlying49 rfl ho2.out rfl hr2.out ?c1 ?c2 hb4.size ?_)
      case c1 => intro s hs; simp at hs; subst hs; rw [length_foldL]; exact hX1
      case c2 => simp; omega
      intro v' w3 h3 hg _
      obtain ⟨a3, cap3, hv3⟩ := h3.shape
      subst hv3
      have h3' := Lib.hid h3
      have hb5 : Below w.heap.size w w3 := own_below hb4 hg ho2.out.own hb4.size (Nat.le_refl _)
      clear h3
      go_wp2_with fail
      go_roundw
      case rel => exact ⟨k + 1, by omega, by go_num, by rw [e1'.out, List.map_take]; exact h3'.out, hb5⟩
      case measure => simp [intOf]; omega
    · have hk' : k = l.length := by omega
      subst hk'
      go_wp2_with fail
      go_ret
      exact ⟨⟨_, rfl, by have := ho'.out; rw [List.take_length] at this; exact this⟩, hb⟩
def sv (s : List UInt8) : Value := .string (mk s)
theorem rowOf_str (l : Nm) : rowOf strE l = l.map sv := by
  induction l with
  | nil => rfl
  | cons c r ih => simp only [rowOf, List.flatMap_cons] at ih ⊢; rw [ih]; rfl
def lentS : List UInt8 := [108, 101, 110, 116]
def lentT (l : Nm) : Nm := l ++ [lentS, lentS, lentS]
theorem lentT_length (l : Nm) : (lentT l).length = l.length + 3 := by simp [lentT]
def lentTK (l : Nm) (k : Nat) : Nm := l ++ ([lentS, lentS, lentS].take k) ++ List.replicate (3 - k) []
theorem lentTK_zero (l : Nm) : lentTK l 0 = l ++ List.replicate 3 [] := by simp [lentTK]
theorem lentTK_three (l : Nm) : lentTK l 3 = lentT l := by simp [lentTK, lentT]
theorem lentTK_step (l : Nm) (k : Nat) (hk : k < 3) : (lentTK l k).set (l.length + k) lentS = lentTK l (k + 1) := by
  unfold lentTK
  match k, hk with
  | 0, _ => simp
  | 1, _ => simp
  | 2, _ => simp
set_option maxHeartbeats 2000000 in
set_option maxRecDepth 100000 in
theorem lent_texts {w : World} {a : Option Addr} {n c : Nat} {l : Nm} (h : Rd strE w a n c l) (hn : n ≤ 1099511627776) :
    Calls Try.prog 108 #[.slice a n c] w fun e w' => e = .returned (.slice (some ⟨w.heap.size, 0, none⟩) n (n + 3)) ∧ Blk w' w.heap.size 9 (0, 0) (rowOf strE (lentT l)) ∧ Below w.heap.size w w' := by
  obtain ⟨i0, hi, hz0, hz1, hz2⟩ := info_parts Try.info9
  have hl := h.len
  have hmk : ∀ u : World, (Instr.makeSlice 48 (.int .i64 ((n : Int) + 3)) (.int .i64 ((n : Int) + 3))).run Try.prog u =
      .ok (.slice (some ⟨u.heap.size, 0, none⟩) (n + 3) (n + 3)) (u.alloc (.cells (madeCells #[.string ⟨#[]⟩] (n + 3)) 9)) := fun u => by
    have h := run_make (P := Try.prog) u 48 9 i0 (.string ⟨#[]⟩) Try.underlying48 hi hz0 .i64 .i64 ((n : Int) + 3) ((n : Int) + 3) (by omega) (Int.le_refl _) (by rw [hz2]; omega) (by omega)
    have e : ((n : Int) + 3).toNat = n + 3 := by omega
    rw [e] at h
    simpa [hz1, Value.cells] using h
  have hH := Lib.hid h; clear h
  go_enter Try.func108, Try.ntmps108
  have hN := Lib.hid hl; clear hl
  have hB0 : Blk (w.alloc (.cells (madeCells #[.string ⟨#[]⟩] (n + 3)) 9)) w.heap.size 9 (0, 0) (List.replicate (n + 3) (.string ⟨#[]⟩)) := by
    rw [← madeCells_one]; exact Blk.new w 9 (0, 0) _
  have hB0' := Lib.hid hB0; clear hB0
  have hr0 := Lib.hid (hH.out.ext ((Below.refl _ w).alloc (Nat.le_refl _) (.cells (madeCells #[.string ⟨#[]⟩] (n + 3)) 9)))
  have hsz1 : (Try.prog.info? strE.e).map (·.size) = some 1 := by kernel_rfl
  go_wp2_with (refine copy_row (o := ⟨some 11, _, _, _, _, _⟩) (E := strE) rfl rfl (.tmp 9) (.tmp 10) 48 48 rfl Try.underlying48 hsz1 rfl rfl hB0'.out hr0.out ?c1 ?c2 ?_)
  case c1 => omega
  case c2 => simp
  intro w1 hB1 hg1
  have hb1 : Below w.heap.size w w1 := ((Below.refl _ w).alloc (Nat.le_refl _) _).grown hg1 (by simp) (fun k hk => by cases hk; exact Nat.le_refl _)
  have hB1' : Blk w1 w.heap.size 9 (0, 0) (rowOf strE (lentTK l 0)) := by
    have e : splice (List.replicate (n + 3) (Value.string ⟨#[]⟩)) 0 (rowOf strE l) = rowOf strE (lentTK l 0) := by
      rw [lentTK_zero, rowOf_str, rowOf_str]
      unfold splice
      rw [List.length_map, hN.out]
      simp [sv, mk]
    rw [← e]; exact hB1
  have hS := Lib.hid hB1'; clear hB1 hB1' hg1 hmk
  go_wp2_with fail
  go_loopw [4] (fun i wr => ∃ k : Nat, k ≤ 3 ∧ i = .int .i64 ((n : Int) + k) ∧ Blk wr w.heap.size 9 (0, 0) (rowOf strE (lentTK l k)) ∧ Below w.heap.size w wr)
    (fun i _ => n + 3 - (intOf i).toNat)
  case atStart => exact ⟨0, by omega, by simp, hS.out, hb1⟩
  case round =>
    obtain ⟨k, hk, rfl, hB, hb⟩ := hrel
    by_cases h3 : k < 3
    · have hc : (wr.cell? ⟨w.heap.size, n + k, none⟩).isSome = true := by
        rw [hB.cell, List.getElem?_eq_getElem (by rw [rowOf_str, List.length_map]; have := hN.out; simp [lentTK]; omega)]; rfl
      obtain ⟨v0, hv0⟩ := Option.isSome_iff_exists.1 hc
      have hf : wr.frozen? ⟨w.heap.size, n + k, none⟩ = false := by rw [hB.frozen]; simp
      have hst := hB.set (n + k) (sv lentS)
      have hB' := Lib.hid hB; clear hB hc
      have e1 : ((n : Int) + (k : Int)).toNat = n + k := by omega
      have hst' : Hid (Blk (wr.setCell ⟨w.heap.size, n + k, none⟩ (.string { data := #[108, 101, 110, 116] })) w.heap.size 9 (0, 0) (rowOf strE (lentTK l (k + 1)))) := by
        have e3 : (rowOf strE (lentTK l k)).set (n + k) (sv lentS) = rowOf strE (lentTK l (k + 1)) := by
          rw [← lentTK_step l k h3, hN.out, rowOf_str, rowOf_str, List.map_set]
        rw [← e3]; exact hst
      clear hst
      go_wp2_with fail
      go_roundw
      case rel => exact ⟨k + 1, by omega, by go_num, hst'.out, hb.setCell (Nat.le_refl _) _⟩
      case measure => simp [intOf]; omega
    · have hk3 : k = 3 := by omega
      subst hk3
      rw [lentTK_three] at hB
      have hB' := Lib.hid hB; clear hB
      go_wp2_with fail
      go_ret
      exact ⟨rfl, hB'.out, hb⟩

set_option maxHeartbeats 1000000 in
set_option maxRecDepth 100000 in
theorem kept_texts {w : World} {a a' : Option Addr} {n c n' c' : Nat} {X l : Nm} (h : Rd strE w a c c X) (h' : Rd strE w a' n' c' l) (hc : n' ≤ 1099511627776) (he : n = n') :
    Calls Try.prog 110 #[.slice a n c, .slice a' n' c'] w fun e w' => e = .returned (.bool (X == lentT l)) ∧ Below w.heap.size w w' := by
  subst he
  have hll := h'.len
  have hH := Lib.hid h; clear h
  have hH' := Lib.hid h'; clear h'
  have hcm := hH.out.most
  unfold maxLen at hcm
  have hLL := Lib.hid hll; clear hll
  have e1 : IntKind.i64.wrap ((n : Int) + 3) = (n : Int) + 3 := IntWalk.i64_in _ (by omega)
  have e2 : (0 : Int) ≤ (n : Int) + 3 := by omega
  have e3 : ((n : Int) + 3).toNat = n + 3 := by omega
  go_enter Try.func110, Try.ntmps110
  go_wp2_with fail
  go_region_held3 (fun w' => Below w.heap.size w w')
    (first | assumption | exact (Below.refl _ _).drew | exact (Below.refl _ _).drew.trans (by assumption))
    (first | (go_at_call 108; refine (lent_texts (hH'.out.ext (by assumption)) hc).mono ?_; rintro e w1 ⟨rfl, hB1, hb1⟩; have hBB := Lib.hid hB1; clear hB1) | (go_at_call 109; refine (same_texts (hH.out.ext (by assumption)) (rd_blk (E := strE) (X := lentT l) (Hid.out (by assumption)) _ (by rw [lentT_length, hLL.out]) (by unfold maxLen; omega))).mono ?_; rintro e w2 ⟨rfl, hb2⟩; have hb3 := Below.trans (by assumption) (hb2.mono (Below.size (by assumption)))))
  go_wp2_with fail
  go_ret
  exact ⟨rfl, by assumption⟩
set_option maxRecDepth 100000 in
theorem lent_name {w : World} {a : Option Addr} {n c : Nat} {l : Nm} (h : Rd strE w a n c l) (hn : n ≤ 1099511627776) :
    Calls Try.prog 44 #[.slice a n c] w fun e w' => e = .returned (.slice (some ⟨w.heap.size, 0, none⟩) n (n + 3)) ∧ Blk w' w.heap.size 9 (0, 0) (rowOf strE (lentT l)) ∧ Below w.heap.size w w' := by
  have hH := Lib.hid h; clear h
  go_enter Try.func44, Try.ntmps44
  go_wp2_with fail
  refine (lent_texts hH.out hn).mono ?_
  rintro e w1 ⟨rfl, hB, hb⟩
  have hB' := Lib.hid hB
  clear hB
  go_wp2_with fail
  go_ret
  exact ⟨rfl, hB'.out, hb⟩
set_option maxRecDepth 100000 in
theorem kept_name {w : World} {a a' : Option Addr} {n c n' c' : Nat} {X l : Nm} (h : Rd strE w a c c X) (h' : Rd strE w a' n' c' l) (hc : n' ≤ 1099511627776) (he : n = n') :
    Calls Try.prog 50 #[.slice a n c, .slice a' n' c'] w fun e w' => e = .returned (.bool (X == lentT l)) ∧ Below w.heap.size w w' := by
  subst he
  have hH := Lib.hid h; clear h
  have hH' := Lib.hid h'; clear h'
  go_enter Try.func50, Try.ntmps50
  go_wp2_with fail
  refine (kept_texts hH.out hH'.out hc rfl).mono ?_
  rintro e w1 ⟨rfl, hb⟩
  go_wp2_with fail
  go_ret
  exact ⟨rfl, hb⟩
/-- a slice of texts whose cells, the room's too, are texts of at most B bytes -/
def OvT (B : Nat) (w : World) (base : Nat) (v : Value) : Prop :=
  v = .slice none 0 0 ∨ ∃ g n cap, ∃ X : List (Sb B), v = .slice (some ⟨g, 0, none⟩) n cap ∧ base ≤ g ∧ Blk w g 9 (0, 0) (rowOf (strB B) X) ∧ X.length = cap ∧ n ≤ cap ∧ cap ≤ maxLen
theorem OwnT.ov {M : Nat} {w : World} {base : Nat} {v : Value} {l : Nm} (h : OwnT M w base v l) : OvT M w base v := by
  obtain ⟨l', _, h⟩ := h
  rcases h with ⟨rfl, _⟩ | ⟨g, cap, X, rfl, hg, hB, hX, hle, hm, _⟩
  · exact .inl rfl
  · exact .inr ⟨g, _, cap, X, rfl, hg, hB, hX, hle, hm⟩
def Sb.more {B : Nat} (s : Sb B) : Sb (B + 1) := ⟨s.1, Nat.le_succ_of_le s.2⟩
def Sb.bang {B : Nat} (s : Sb B) : Sb (B + 1) := ⟨s.1 ++ [33], by have := s.2; simp; omega⟩
theorem row_more {B : Nat} (X : List (Sb B)) : rowOf (strB (B + 1)) (X.map Sb.more) = rowOf (strB B) X := by
  induction X with
  | nil => rfl
  | cons c r ih => simp only [rowOf, List.flatMap_cons, List.map_cons] at ih ⊢; rw [ih]; rfl
theorem OvT.keep {B : Nat} {w w' : World} {base : Nat} {v : Value} (h : OvT B w base v) (hb : Below w.heap.size w w') : OvT B w' base v := by
  rcases h with h | ⟨g, n, cap, X, h1, h2, h3, r⟩
  · exact .inl h
  · exact .inr ⟨g, n, cap, X, h1, h2, h3.below hb h3.lt, r⟩
set_option maxHeartbeats 2000000 in
set_option maxRecDepth 100000 in
/-- all texts are written over, in the room too -/
theorem over_texts {B : Nat} (hM : B ≤ 1099511627776) {w : World} {base : Nat} {v : Value} (h : OvT B w base v) :
    Calls Try.prog 92 #[v] w fun e w' => e = .returned (.tuple #[]) ∧ (∀ u, OvT B w base u → OvT (B + 1) w' base u) ∧ w.grownBy w' v.ownBlock ∧ (∀ k, v.ownBlock = some k → base ≤ k ∧ ∃ C, Blk w k 9 (0, 0) C) := by
  rcases h with rfl | ⟨g, n, c, X, rfl, hg, hB, hX, hle, hm⟩
  · go_enter Try.func92, Try.ntmps92
    go_wp2_with fail
    refine wp_loop_rounds 1 ?_
    rw [rounds_succ]
    go_wp2_with fail
    go_end0
    refine ⟨rfl, fun u hu => ?_, ⟨rfl, rfl, rfl, Nat.le_refl _, fun _ _ _ => rfl⟩, fun k hk => by simp [Value.ownBlock] at hk⟩
    rcases hu with hu | ⟨g, n, cap, X, h1, h2, h3, h4, r⟩
    · exact .inl hu
    · exact .inr ⟨g, n, cap, X.map Sb.more, h1, h2, by rw [row_more]; exact h3, by simpa using h4, r⟩
  · simp only [maxLen] at hm
    have hXl := Lib.hid hX; clear hX
    have hH := Lib.hid hB
    clear hB
    go_enter Try.func92, Try.ntmps92
    go_wp2_with fail
    go_loopw [3] (fun i wr => ∃ k : Nat, k ≤ c ∧ i = .int .i64 k ∧ Blk wr g 9 (0, 0) (rowOf (strB (B + 1)) ((X.take k).map Sb.bang) ++ rowOf (strB B) (X.drop k)) ∧ w.grownBy wr (some g))
      (fun i _ => c - (intOf i).toNat)
    case atStart => exact ⟨0, Nat.zero_le _, rfl, hH.out, ⟨rfl, rfl, rfl, Nat.le_refl _, fun _ _ _ => rfl⟩⟩
    case round =>
      obtain ⟨k, hk, rfl, hB, hgr⟩ := hrel
      by_cases hlt : k < c
      · have hkl : k < X.length := by rw [hXl.out]; exact hlt
        have hd : X.drop k = X[k] :: X.drop (k + 1) := List.drop_eq_getElem_cons hkl
        have ht : (X.take (k + 1)).map Sb.bang = (X.take k).map Sb.bang ++ [X[k].bang] := by rw [List.take_succ_eq_append_getElem hkl, List.map_append]; rfl
        have hC : (rowOf (strB (B + 1)) ((X.take k).map Sb.bang)).length = k := by
          rw [rowOf_length]; simp [strB]; omega
        have h1 : rowOf (strB B) (X.drop k) = .string (mk X[k].1) :: rowOf (strB B) (X.drop (k + 1)) := by rw [hd]; rfl
        have h2 : rowOf (strB (B + 1)) ((X.take (k + 1)).map Sb.bang) = rowOf (strB (B + 1)) ((X.take k).map Sb.bang) ++ [.string (mk (X[k].1 ++ [33]))] := by rw [ht, rowOf_append]; rfl
        rw [h1] at hB
        have hlen := X[k].2
        have hcell : wr.cell? ⟨g, k, none⟩ = some (.string (mk X[k].1)) := by
          rw [hB.cell, List.getElem?_append_right (by omega), hC, Nat.sub_self]; rfl
        have hfr : wr.frozen? ⟨g, k, none⟩ = false := by
          rw [hB.frozen]; simp
        have hst := hB.set k (.string (mk (X[k].1 ++ [33])))
        rw [List.set_append_right _ _ (by omega), hC, Nat.sub_self] at hst
        have hst2 : Hid (Blk (wr.setCell ⟨g, k, none⟩ (.string (mk (X[k].1 ++ [33])))) g 9 (0, 0) (rowOf (strB (B + 1)) ((X.take (k + 1)).map Sb.bang) ++ rowOf (strB B) (X.drop (k + 1)))) := by
          refine Lib.hid ?_
          rw [h2, List.append_assoc]; exact hst
        clear hB hst hd ht hC h1 h2
        generalize X[k].1 = Y at *
        have e : mk Y ++ ({ data := #[33] } : ByteArray) = mk (Y ++ [33]) := mk_append Y [33]
        have e' := Lib.hid e
        clear e
        go_wp2_with fail
        go_roundw
        case rel => exact ⟨k + 1, by omega, by go_num, by rw [e'.out]; exact hst2.out, ⟨hgr.os, hgr.tape, hgr.output, by have := hgr.size; simpa using this, fun i hi hne => (Below.heap_setCell _ _ _ i (fun e => hne (by rw [e]))).trans (hgr.block i hi hne)⟩⟩
        case measure => simp [intOf]; omega
      · have hk' : k = c := by omega
        subst hk'
        have hB2 : Hid (Blk wr g 9 (0, 0) (rowOf (strB (B + 1)) (X.map Sb.bang))) := Lib.hid (by
          rw [← hXl.out, List.take_length, List.drop_length] at hB
          have e : rowOf (strB B) ([] : List (Sb B)) = [] := rfl
          rw [e, List.append_nil] at hB; exact hB)
        clear hB
        go_wp2_with fail
        go_end0
        refine ⟨rfl, fun u hu => ?_, hgr, fun j hj => ?_⟩
        · rcases hu with hu | ⟨g', n', cap', X', h1, h2, h3, h4, h5, h6⟩
          · exact .inl hu
          · by_cases hgg : g' = g
            · subst hgg
              have e1 : X'.length = X.length := by
                have := h3.symm.trans hH.out
                simp only [Option.some.injEq, Obj.cells.injEq, Array.mk.injEq] at this
                have := congrArg List.length this.1
                rw [rowOf_length, rowOf_length, show (strB B).k = 1 from rfl] at this
                omega
              exact .inr ⟨g', n', cap', X.map Sb.bang, h1, h2, hB2.out, by simp; omega, h5, h6⟩
            · exact .inr ⟨g', n', cap', X'.map Sb.more, h1, h2, by rw [row_more]; exact (hgr.block g' h3.lt (fun e => hgg (by simpa using e))).trans h3, by simpa using h4, h5, h6⟩
        · simp [Value.ownBlock] at hj; subst hj; exact ⟨hg, _, hH.out⟩
end Go.Proofs.Ytffdcfannnmjnaa
