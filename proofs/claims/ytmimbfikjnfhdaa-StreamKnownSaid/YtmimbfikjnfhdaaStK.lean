/- The program's pipe: New 10, none 35, Open 12, Close 14, Keys 16. -/
import Derived.Test.YtmimbfikjnfhdaaStJ
namespace Go.Proofs.Ytmimbfikjnfhdaa
open Go.RowKit
/-- IDs with their keys, as they were opened -/
def lookI (L : List (Int × Int)) (x : Int) : Option Int := (L.find? fun p => p.1 == x).map (·.2)
def KU : KeyEnc Int Try.prog 30 := numKey Try.prog 30 .u16 Try.underlying30
def okP (p : Int × Int) : Prop := (Lit.int .u16 p.1).wf = true ∧ (Lit.int .i64 p.2).wf = true
def goodP (L : List (Int × Int)) : Prop := (L.map (·.1)).Nodup ∧ ∀ p ∈ L, okP p
def ids (L : List (Int × Int)) : List Int := L.map (·.1)
theorem ids_length (L : List (Int × Int)) : (ids L).length = L.length := by simp [ids]
theorem lookI_none {L : List (Int × Int)} {x : Int} : lookI L x = none ↔ x ∉ ids L := by
  simp [lookI, ids]
  constructor
  · intro h y hy; exact h _ _ hy rfl
  · intro h a b hab e; subst e; exact h _ hab
theorem lookI_at {L : List (Int × Int)} (h : (ids L).Nodup) {k : Nat} (hk : k < L.length) : lookI L L[k].1 = some L[k].2 := by
  induction L generalizing k with
  | nil => simp at hk
  | cons p r ih =>
    have h2 : (ids r).Nodup ∧ p.1 ∉ ids r := by simp [ids] at h ⊢; exact ⟨h.2, h.1⟩
    cases k with
    | zero => simp [lookI]
    | succ k =>
      have hk' : k < r.length := by simpa using hk
      have := ih h2.1 hk'
      have hne : (p.1 == r[k].1) = false := by
        rw [beq_eq_false_iff_ne]
        intro e
        apply h2.2
        rw [e]
        exact List.mem_map_of_mem (List.getElem_mem _)
      simp only [List.getElem_cons_succ, lookI, List.find?_cons, hne] at this ⊢
      exact this
theorem lookI_snoc {L : List (Int × Int)} {x v : Int} (h : lookI L x = none) : lookI (L ++ [(x, v)]) = fun y => if y = x then some v else lookI L y := by
  funext y
  by_cases hy : y = x
  · subst hy
    rw [if_pos rfl]
    have h2 : L.find? (fun p => p.1 == y) = none := by simpa [lookI] using h
    simp [lookI, List.find?_append, h2]
  · rw [if_neg hy]
    have hne : (x == y) = false := by simp; exact fun e => hy e.symm
    simp [lookI, List.find?_append, hne]
def dropI (L : List (Int × Int)) (x : Int) : List (Int × Int) := L.filter fun p => decide (p.1 ≠ x)
theorem ids_drop (L : List (Int × Int)) (x : Int) : ids (dropI L x) = (ids L).filter fun y => decide (y ≠ x) := by
  simp [ids, dropI, List.filter_map]; rfl
theorem lookI_drop (L : List (Int × Int)) (x : Int) : lookI (dropI L x) = fun y => if y = x then none else lookI L y := by
  funext y
  by_cases hy : y = x
  · subst hy
    rw [if_pos rfl, lookI_none, ids_drop]
    simp
  · rw [if_neg hy]
    induction L with
    | nil => rfl
    | cons p r ih =>
      by_cases hp : p.1 = x
      · have h1 : dropI (p :: r) x = dropI r x := by simp [dropI, hp]
        have h2 : (p.1 == y) = false := by simp [hp]; exact fun e => hy e.symm
        rw [h1, ih]
        simp [lookI, h2]
      · have h1 : dropI (p :: r) x = p :: dropI r x := by simp [dropI, hp]
        rw [h1]
        simp only [lookI, List.find?_cons] at ih ⊢
        cases p.1 == y with
        | true => rfl
        | false => exact ih
theorem goodP_drop {L : List (Int × Int)} (h : goodP L) (x : Int) : goodP (dropI L x) := by
  refine ⟨?_, fun p hp => h.2 p (List.mem_filter.1 hp).1⟩
  have := ids_drop L x
  unfold ids at this
  rw [this]
  exact h.1.filter _
theorem goodP_snoc {L : List (Int × Int)} (h : goodP L) {x v : Int} (hx : lookI L x = none) (ho : okP (x, v)) : goodP (L ++ [(x, v)]) := by
  refine ⟨?_, fun p hp => ?_⟩
  · rw [List.map_append, List.nodup_append]
    refine ⟨h.1, by simp, fun a ha b hb => ?_⟩
    simp at hb
    subst hb
    intro e
    subst e
    exact lookI_none.1 hx ha
  · rcases List.mem_append.1 hp with hp | hp
    · exact h.2 p hp
    · simp at hp; subst hp; exact ho
theorem drop_len (L : List (Int × Int)) (x : Int) : (dropI L x).length ≤ L.length := List.length_filter_le _ _
/-- the pipe at block m + 1, its map at m, its IDs at o -/
def PipP (w : World) (m : Nat) (o : Option Nat) (most : Int) (L : List (Int × Int)) (n : Nat) : Prop :=
  ∃ v, Blk w (m + 1) 68 (0, 0) [.int .i64 most, .map (some m), v] ∧ Own idE w (m + 2) v (ids L) ∧ v.ownBlock = o ∧ Mp KU 3 .i64 w m n (lookI L)
def fp (m : Nat) (o : Option Nat) (k : Nat) : Prop := k = m ∨ k = m + 1 ∨ o = some k
theorem PipP.lt {w : World} {m : Nat} {o : Option Nat} {most : Int} {L : List (Int × Int)} {n : Nat} (h : PipP w m o most L n) : m + 1 < w.heap.size ∧ ∀ k, o = some k → m + 2 ≤ k ∧ k < w.heap.size := by
  obtain ⟨v, h1, h2, rfl, _⟩ := h
  exact ⟨h1.lt, fun k hk => h2.lt k hk⟩
theorem PipP.tch {w w' : World} {m : Nat} {o : Option Nat} {most : Int} {L : List (Int × Int)} {n : Nat} {S : Nat → Prop} (h : PipP w m o most L n) (t : Tch S w w') (hn : ∀ k, fp m o k → ¬ S k) : PipP w' m o most L n := by
  obtain ⟨v, h1, h2, rfl, h4⟩ := h
  exact ⟨v, t.blk h1 (hn _ (.inr (.inl rfl))), t.own h2 (fun b hb => hn _ (.inr (.inr hb))), rfl, h4.tch t (hn _ (.inl rfl))⟩
theorem PipP.ext {w w' : World} {m : Nat} {o : Option Nat} {most : Int} {L : List (Int × Int)} {n : Nat} (h : PipP w m o most L n) (hb : Below w.heap.size w w') : PipP w' m o most L n :=
  h.tch (Tch.of_below (S := fun _ => False) hb) fun _ _ => id
/-- what a pipe turns -/
def NewO (w : World) (o o' : Option Nat) : Prop := ∀ k, o' = some k → o = some k ∨ w.heap.size ≤ k
theorem pnew_yes (w : World) (most : Int) (h1 : 1 ≤ most) (h2 : most ≤ 256) : Calls Try.prog 10 #[.int .i64 most] w fun e w' => e = .returned (.tuple #[.pointer (some ⟨w.heap.size + 1, 0, none⟩), .int .i64 0]) ∧ PipP w' w.heap.size none most [] 0 ∧ Below w.heap.size w w' := by
  have hmm := @run_makeMap Try.prog
  go_enter Try.func10, Try.ntmps10
  go_wp2_with fail
  ((try simp only [Exit.inBlock, Exit.then]); refine bodyPost_ret (results_tmp2 rfl _ _ _) rfl ?_)
  refine ⟨by simp, ⟨_, ?_, Own.nil _ _ _, rfl, ?_⟩, ((Below.refl _ _).alloc (Nat.le_refl _) _).alloc (by simp) _⟩
  · have := Blk.new (w.alloc (.map #[] 0)) 68 (0, 0) #[.int .i64 most, .map (some w.heap.size), .slice none 0 0]
    simpa using this
  · exact ((Mp.made KU 3 .i64 w).keep (Below.heap_alloc _ _ _ (by simp))).eq fun _ _ => rfl
theorem pnew_no (w : World) (most : Int) (h : most < 1 ∨ 256 < most) : Calls Try.prog 10 #[.int .i64 most] w fun e w' => e = .returned (.tuple #[.pointer none, .int .i64 2]) ∧ w = w' := by
  by_cases h1 : most < 1
  · go_enter Try.func10, Try.ntmps10
    go_wp2_with fail
    ((try simp only [Exit.inBlock, Exit.then]); refine bodyPost_ret (results_tmp2 rfl _ _ _) rfl ?_)
    exact ⟨rfl, rfl⟩
  · have h1' : ¬ most < 1 := h1
    have h2 : 256 < most := by omega
    go_enter Try.func10, Try.ntmps10
    go_wp2_with fail
    ((try simp only [Exit.inBlock, Exit.then]); refine bodyPost_ret (results_tmp2 rfl _ _ _) rfl ?_)
    exact ⟨rfl, rfl⟩
theorem pnone {w : World} {m b : Nat} (h : w.cell? ⟨b, 1, none⟩ = some (.map (some m))) : Calls Try.prog 35 #[.pointer (some ⟨b, 0, none⟩)] w fun e w' => e = .returned (.bool false) ∧ w = w' := by
  have he : (binOp .eql 65 (.map (some m)) (.map none)).run Try.prog w = .ok (.bool false) w := run_eql_map_nil w 65 30 3 (some m) Try.underlying65
  go_enter Try.func35, Try.ntmps35
  go_wp2_with fail
  go_ret
  exact ⟨rfl, rfl⟩
theorem zero3 (w : World) : (zeroValue 3).run Try.prog w = .ok (.int .i64 0) w := by kernel_rfl
set_option maxHeartbeats 4000000 in
theorem popen_there {w : World} {m : Nat} {o : Option Nat} {most : Int} {L : List (Int × Int)} {n : Nat} (h : PipP w m o most L n) {id key : Int} (hid : (Lit.int .u16 id).wf = true) {v : Int} (hv : lookI L id = some v) :
    Calls Try.prog 12 #[.pointer (some ⟨m + 1, 0, none⟩), .int .u16 id, .int .i64 key] w fun e w' => e = .returned (.int .i64 10) ∧ w = w' := by
  obtain ⟨iv, h1, h2, _, h4⟩ := h
  have c1 : w.cell? ⟨m + 1, 1, none⟩ = some (.map (some m)) := by rw [h1.cell]; rfl
  have hl : (Instr.lookup 65 (.map (some m)) (.int .u16 id) true).run Try.prog w = .ok (.tuple #[.int .i64 v, .bool true]) w := by
    have := h4.lookOk (t := 65) Try.underlying65 Try.underlying3 (zero3 w) (x := id) hid
    rw [hv] at this
    exact this
  clear h1 h2 h4 hv
  go_enter Try.func12, Try.ntmps12
  go_wp2_with fail
  refine (pnone c1).mono ?_
  rintro e w1 ⟨rfl, rfl⟩
  go_wp2_with fail
  go_ret
  exact ⟨rfl, rfl⟩
set_option maxHeartbeats 4000000 in
theorem popen_full {w : World} {m : Nat} {o : Option Nat} {most : Int} {L : List (Int × Int)} {n : Nat} (h : PipP w m o most L n) {id key : Int} (hid : (Lit.int .u16 id).wf = true) (hv : lookI L id = none) (hm : (L.length : Int) = most) :
    Calls Try.prog 12 #[.pointer (some ⟨m + 1, 0, none⟩), .int .u16 id, .int .i64 key] w fun e w' => e = .returned (.int .i64 14) ∧ w.drew = w' := by
  obtain ⟨iv, h1, h2, _, h4⟩ := h
  subst hm
  obtain ⟨ia, ic, rfl⟩ := h2.shape
  rw [ids_length] at h1 h2
  have c1 : w.cell? ⟨m + 1, 1, none⟩ = some (.map (some m)) := by rw [h1.cell]; rfl
  have c0 : w.cell? ⟨m + 1, 0, none⟩ = some (.int .i64 L.length) := by rw [h1.cell]; rfl
  have c2 : w.cell? ⟨m + 1, 2, none⟩ = some (.slice ia L.length ic) := by rw [h1.cell]; rfl
  have hl : (Instr.lookup 65 (.map (some m)) (.int .u16 id) true).run Try.prog w = .ok (.tuple #[.int .i64 0, .bool false]) w := by
    have := h4.lookOk (t := 65) Try.underlying65 Try.underlying3 (zero3 w) (x := id) hid
    rw [hv] at this
    exact this
  clear h1 h2 h4 hv
  go_enter Try.func12, Try.ntmps12
  go_wp2_with fail
  refine (pnone c1).mono ?_
  rintro e w1 ⟨rfl, rfl⟩
  go_wp2_with fail
  go_region
  go_wp2_with fail
  go_ret
  exact ⟨rfl, rfl⟩
set_option maxHeartbeats 8000000 in
set_option maxRecDepth 100000 in
theorem popen_ok {w : World} {m : Nat} {o : Option Nat} {most : Int} {L : List (Int × Int)} {n : Nat} (h : PipP w m o most L n) {id key : Int} (hid : (Lit.int .u16 id).wf = true) (hkey : (Lit.int .i64 key).wf = true) (hv : lookI L id = none) (hm : (L.length : Int) ≠ most) (hn : n ≤ 1000000) (hL : L.length ≤ 1000000) :
    Calls Try.prog 12 #[.pointer (some ⟨m + 1, 0, none⟩), .int .u16 id, .int .i64 key] w fun e w' => e = .returned (.int .i64 0) ∧ ∃ o', PipP w' m o' most (L ++ [(id, key)]) (n + 1) ∧ NewO w o o' ∧ Tch (fp m o) w w' := by
  have hlt := h.lt
  obtain ⟨i0, hi, hz0, hz1, hz2⟩ := info_parts (show (Try.prog.info? 30).map (fun i => (i.zero, i.size, i.bytes)) = some (some (.int .u16 0), 1, 2) by kernel_rfl)
  obtain ⟨iv, h1, h2, ho, h4⟩ := h
  have hlk := Lib.hid (lookI_snoc (v := key) hv)
  obtain ⟨ia, ic, rfl⟩ := h2.shape
  rw [ids_length] at h1 h2 ho
  have c1 : w.cell? ⟨m + 1, 1, none⟩ = some (.map (some m)) := by rw [h1.cell]; rfl
  have c0 : w.cell? ⟨m + 1, 0, none⟩ = some (.int .i64 most) := by rw [h1.cell]; rfl
  have c2 : w.cell? ⟨m + 1, 2, none⟩ = some (.slice ia L.length ic) := by rw [h1.cell]; rfl
  have hl : (Instr.lookup 65 (.map (some m)) (.int .u16 id) true).run Try.prog w = .ok (.tuple #[.int .i64 0, .bool false]) w := by
    have := h4.lookOk (t := 65) Try.underlying65 Try.underlying3 (zero3 w) (x := id) hid
    rw [hv] at this
    exact this
  have hmB : ((L.length : Int) == most) = false := by simp [hm]
  have h4d : Mp KU 3 .i64 w.drew m n (lookI L) := h4
  obtain ⟨w3, hst, hM3, hg3, hs3⟩ := h4d.store (t := 65) Try.underlying65 Try.underlying3 (by unfold maxLen; omega) (x := id) hid hkey
  replace hst : (Instr.mapUpdate 65 (.map (some m)) (.int .u16 id) (.int .i64 key)).run Try.prog w.drew = .ok () w3 := hst
  replace hs3 : w3.heap.size = w.heap.size := hs3
  have hT3 : Tch (fp m o) w w3 := Tch.of_grown (u := w) ⟨hg3.os, hg3.tape, hg3.output, hg3.size, hg3.block⟩ (fun k hk => by cases hk; exact .inl rfl)
  have b3 : Blk w3 (m + 1) 68 (0, 0) [.int .i64 most, .map (some m), .slice ia L.length ic] := (hg3.block (m + 1) h1.lt (fun e => by cases e)).trans h1
  have o3 : Own idE w3 (m + 2) (.slice ia L.length ic) (ids L) := h2.keep fun k hk => hg3.block k (h2.lt k hk).2 (fun e => by cases e; have := (h2.lt m hk).1; omega)
  have d1 : w3.cell? ⟨m + 1, 2, none⟩ = some (.slice ia L.length ic) := by rw [b3.cell]; rfl
  have k4 : Below w3.heap.size w3 (w3.alloc (.cells #[.int .u16 id] 30)) := (Below.refl _ _).alloc (Nat.le_refl _) _
  have o4 := Lib.hid (o3.ext k4)
  have s4 := Lib.hid ((rd_blk (E := idE) (X := [id]) (Blk.new w3 30 (0, 0) #[.int .u16 id]) 1 rfl (by decide)).src (P := Try.prog) (tx := 66) Try.underlying66)
  have hsz4 : m + 2 ≤ (w3.alloc (.cells #[.int .u16 id] 30)).heap.size := by have := hlt.1; simp; omega
  have hB3 := Lib.hid b3
  have hM3' := Lib.hid hM3
  have ho' := Lib.hid ho
  have hlen := Lib.hid (ids_length L)
  have hbl := Lib.hid (fun k hk => (o3.lt k hk).2)
  have hs3' := Lib.hid hs3
  clear h1 h2 h4 hv h4d b3 o3 hM3 ho hm hs3
  go_enter Try.func12, Try.ntmps12
  go_wp2_with fail
  refine (pnone c1).mono ?_
  rintro e w1 ⟨rfl, rfl⟩
  go_wp2_with fail
  go_region
  go_wp2_with (at_builtin; refine app_own (E := idE) rfl (.tmp 41) (.tmp 43) 66 66 rfl Try.underlying66 hi hz0 hz1 hz2 rfl rfl o4.out rfl s4.out ?c1 ?c2 hsz4 ?_)
  case c1 => rw [hlen.out]; simp [maxLen]; omega
  case c2 => rw [hlen.out]; simp; omega
  intro v5 w5 h5 hg5 hv5
  obtain ⟨a5, n5, c5, rfl⟩ : ∃ a n c, v5 = .slice a n c := by obtain ⟨a, c, e⟩ := h5.shape; exact ⟨_, _, _, e⟩
  have hB4 : Blk (w3.alloc (.cells #[.int .u16 id] 30)) (m + 1) 68 (0, 0) [.int .i64 most, .map (some m), .slice ia L.length ic] := hB3.out.below k4 hB3.out.lt
  have hne : ∀ k, (Value.slice ia L.length ic).ownBlock = some k → k ≠ m + 1 ∧ k ≠ m := fun k hk => by have := (o4.out.lt k hk).1; omega
  have hB5 : Blk w5 (m + 1) 68 (0, 0) [.int .i64 most, .map (some m), .slice ia L.length ic] := (hg5.block (m + 1) hB4.lt (fun e => (hne _ e.symm).1 rfl)).trans hB4
  have d5 : w5.cell? ⟨m + 1, 2, none⟩ = some (.slice ia L.length ic) := by rw [hB5.cell]; rfl
  have f5 : w5.frozen? ⟨m + 1, 2, none⟩ = false := by rw [hB5.frozen]; simp
  have hM5 : Mp KU 3 .i64 w5 m (n + 1) (fun y => if y = id then some key else lookI L y) := hM3'.out.keep ((hg5.block m (by have := hM3'.out.lt; simp; omega) (fun e => (hne _ e.symm).2 rfl)).trans (Below.heap_alloc _ _ _ hM3'.out.lt))
  have hT5 : Tch (fp m o) w w5 := (hT3.trans (Tch.of_below k4) (fun b _ h => h)).trans (Tch.of_grown (S := fp m o) hg5 (fun k hk => .inr (.inr (ho'.out ▸ hk)))) (fun b _ h => h)
  have hsz5 := hT5.size
  have q5 := Lib.hid hB5
  have q6 := Lib.hid hM5
  have q7 := Lib.hid hT5
  have q8 := Lib.hid h5
  have q9 := Lib.hid hv5
  clear hB4 hne hB5 hM5 hT5 h5 hg5 hv5 k4
  go_wp2_with fail
  go_ret
  refine ⟨rfl, (Value.slice a5 n5 c5).ownBlock, ⟨.slice a5 n5 c5, ?_, ?_, rfl, ?_⟩, ?_, ?_⟩
  · exact q5.out.set 2 (.slice a5 n5 c5)
  · have e : ids (L ++ [(id, key)]) = ids L ++ [id] := by simp [ids]
    rw [e]
    exact q8.out.keep fun k hk => Below.heap_setCell _ _ _ _ (by have := (q8.out.lt k hk).1; show k ≠ m + 1; omega)
  · rw [hlk.out]
    exact q6.out.keep (Below.heap_setCell _ _ _ _ (by show m ≠ m + 1; omega))
  · intro k hk
    rcases q9.out with h | h
    · exact .inl (by rw [← ho'.out, ← h]; exact hk)
    · rw [h] at hk
      cases hk
      exact .inr (by have := hs3'.out; simp; omega)
  · exact q7.out.trans (Tch.setCell (S := fp m o) w5 (p := ⟨m + 1, 2, none⟩) (.inr (.inl rfl)) (.slice a5 n5 c5)) (fun b _ h => h)
end Go.Proofs.Ytmimbfikjnfhdaa
