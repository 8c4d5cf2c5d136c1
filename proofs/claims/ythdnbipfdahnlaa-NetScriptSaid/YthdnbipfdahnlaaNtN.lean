/- Two networks beside one another. -/
import Derived.Test.YthdnbipfdahnlaaNtM
import Derived.Test.YthdnbipfdahnlaaOpenK
namespace Go.Proofs.Ythdnbipfdahnlaa
open Go Go.RowKit
theorem NetA.tch {w w' : World} {n B m : Nat} {S Q : Nat → Prop} {s : NS} (h : NetA w n B m S s) (t : Tch Q w w') (hQ : ∀ g, S g → ¬ Q g) : NetA w' n B m S s := ⟨h.P.tch t hQ, h.lo, h.hi, h.bm, Nat.le_trans h.mw t.size⟩
theorem NetA.wide {w : World} {n B m m' : Nat} {S : Nat → Prop} {s : NS} (h : NetA w n B m S s) (h1 : m ≤ m') (h2 : m' ≤ w.heap.size) : NetA w n B m' S s := ⟨h.P, h.lo, fun g hg => Nat.lt_of_lt_of_le (h.hi g hg) h1, Nat.le_trans h.bm h1, h2⟩
/-- two networks, apart -/
structure Two (w : World) (x y B m : Nat) (Sx Sy : Nat → Prop) (s t : NS) : Prop where
  a : NetA w x B m Sx s
  b : NetA w y B m Sy t
  ne : ∀ g, Sx g → ¬ Sy g
theorem Two.sym {w : World} {x y B m : Nat} {Sx Sy : Nat → Prop} {s t : NS} (h : Two w x y B m Sx Sy s t) : Two w y x B m Sy Sx t s := ⟨h.b, h.a, fun g h1 h2 => h.ne g h2 h1⟩
theorem Two.ext {w w' : World} {x y B m : Nat} {Sx Sy : Nat → Prop} {s t : NS} (h : Two w x y B m Sx Sy s t) (hb : Below w.heap.size w w') : Two w' x y B m Sx Sy s t := ⟨h.a.ext hb, h.b.ext hb, h.ne⟩
theorem forge_two {w : World} {x y B m : Nat} {Sx Sy : Nat → Prop} {s t : NS} (hT : Two w x y B m Sx Sy s t) (hok : s.ok) (h : Hd) {da : Option Addr} {dn dc : Nat} {d : List UInt8} (hp : Rd byteE w da dn dc d) (hdn : dn ≤ 140737488355328) (z : Int) :
    Calls Try.prog 11 #[.pointer (some ⟨x, 0, none⟩), pkV h (.slice da dn dc), .int .i64 z] w fun e w' => e = .returned (.int .i64 (forgeS s h d z).1) ∧ (∃ S', Two w' x y B w'.heap.size S' Sy (forgeS s h d z).2 t) ∧ Tch (fun g => Sx g ∧ g < m) w w' := by
  refine (forge_any hT.a.P hok h hp hdn z).mono ?_
  rintro e w' ⟨h1, h2, h3⟩
  have hm := hT.a.mw
  have hb := hT.a.bm
  have hz := h3.size
  refine ⟨h1, ⟨_, NetA.of (B := B) h2 (fun g hg => ?_) (by omega), (hT.b.tch h3 (fun g hg hx => hT.ne g hx hg)).wide (by omega) (Nat.le_refl _), fun g hg hy => ?_⟩, h3.mono (fun b _ hb => ⟨hb, hT.a.hi b hb⟩)⟩
  · rcases hg with hg | hg
    · exact hT.a.lo g hg
    · omega
  · rcases hg.1 with hx | hx
    · exact hT.ne g hx hy
    · have := hT.b.hi g hy
      omega
def s00 : NS := ⟨[], 0, [], ⟨0, 0, 0, 0⟩⟩
/-- the network when k moments were gone through -/
def pcs (M : List Int) : Nat → NS
  | 0 => s00
  | k + 1 => (forgeS (pcs M k) hdB [UInt8.ofNat k] (M.getD k 0)).2
theorem s00_ok : s00.ok ∧ s00.c.forged ≤ ((0 : Nat) : Int) ∧ s00.c.taken = 0 ∧ s00.A.length ≤ 0 := ⟨⟨srt0, by decide, by decide, by decide, by decide, by decide, by decide, by decide⟩, by decide, by decide, by decide⟩
theorem pcs_ok (M : List Int) : ∀ k, k ≤ 100 → (pcs M k).ok ∧ (pcs M k).c.forged ≤ k ∧ (pcs M k).c.taken = 0 ∧ (pcs M k).A.length ≤ k
  | 0, _ => s00_ok
  | k + 1, hk => by
    obtain ⟨h1, h2, h3, h4⟩ := pcs_ok M k (by omega)
    have f0 := h1.forged
    unfold pcs forgeS
    split
    · exact ⟨h1, by dsimp only; omega, h3, by dsimp only; omega⟩
    · split
      · exact ⟨h1, by dsimp only; omega, h3, by dsimp only; omega⟩
      · refine ⟨⟨insU_srt _ _ h1.srt, ?_, h1.fates, h1.at_, h1.sent, h1.lost, ?_, h1.taken⟩, ?_, h3, ?_⟩
        · dsimp only; rw [insU_len]; omega
        · dsimp only; omega
        · dsimp only; omega
        · dsimp only; rw [insU_len]; omega
theorem take_drop_while {α : Type} {p q : α → Bool} (h : ∀ a, p a = true → q a = true) : ∀ L : List α, L.takeWhile p ++ (L.dropWhile p).takeWhile q = L.takeWhile q
  | [] => rfl
  | a :: r => by
    by_cases hp : p a = true
    · rw [List.takeWhile_cons_of_pos hp, List.dropWhile_cons_of_pos hp, List.takeWhile_cons_of_pos (h a hp), List.cons_append, take_drop_while h r]
    · rw [List.takeWhile_cons_of_neg hp, List.dropWhile_cons_of_neg hp, List.nil_append]
theorem srt_drop : ∀ (A : List Fl) (p : Fl → Bool), SrtA A → SrtA (A.dropWhile p)
  | [], p, h => h
  | a :: r, p, h => by
    by_cases hp : p a = true
    · rw [List.dropWhile_cons_of_pos hp]; exact srt_drop r p h.tail
    · rw [List.dropWhile_cons_of_neg hp]; exact h
theorem due_ok {s : NS} (h : s.ok) (ht : s.c.taken = 0) (y : Int) : (dueS s y).2.2.ok := by
  unfold dueS
  split
  · exact h
  · have h1 := h.room
    have h2 : (s.A.takeWhile (fun f => decide (f.at_ ≤ y))).length ≤ s.A.length := (List.takeWhile_sublist _).length_le
    have h3 : (s.A.dropWhile (fun f => decide (f.at_ ≤ y))).length ≤ s.A.length := (List.dropWhile_sublist _).length_le
    refine ⟨srt_drop _ _ h.srt, by dsimp only; omega, h.fates, h.at_, h.sent, h.lost, h.forged, ?_⟩
    dsimp only
    omega
theorem due_len {s : NS} (h : s.ok) (y : Int) : (dueS s y).1.length ≤ 16384 := by
  unfold dueS
  have h1 := h.room
  split
  · simp
  · have h2 : (s.A.takeWhile (fun f => decide (f.at_ ≤ y))).length ≤ s.A.length := (List.takeWhile_sublist _).length_le
    dsimp only
    omega
/-- taken at once or in two steps -/
theorem pieces_law (s : NS) (half all : Int) (h0 : 0 ≤ half) (h1 : half ≤ all) (h2 : all ≤ 1000) : (dueS s half).2.1 = 0 ∧ (dueS (dueS s half).2.2 all).2.1 = 0 ∧ (dueS s all).2.1 = 0 ∧ (dueS s half).1 ++ (dueS (dueS s half).2.2 all).1 = (dueS s all).1 := by
  unfold dueS
  rw [if_neg (by omega), if_neg (by omega), if_neg (by omega)]
  refine ⟨rfl, rfl, rfl, take_drop_while (fun a h => ?_) s.A⟩
  have := of_decide_eq_true h
  exact decide_eq_true (by omega)
theorem wpList_append_on {P : Program} (w : World) {ops : Array Oper} {rest : List Oper} {o : Oper} {a : Act} {Q : Exit → Act → World → Prop} (hw : Region.wanted o (yielded ops a.tmps) = true) (s x : Operand) (t tn : TypeId)
    (ho : o.op = .call { callee := .builtin .append, args := #[s, x], argTypes := #[t, tn] }) (vs vx : Value) (hs : a.eval s = vs) (hx : a.eval x = vx)
    (v' : Value) (w' : World) (hr : (Builtin.append_ #[t, tn] o.type #[vs, vx]).run P w = .ok v' w') (h : wpList P ops Q rest (a.put o.dst v') w') : wpList P ops Q (o :: rest) a w :=
  wpList_step fun _ hK => by rw [if_pos hw]; exact Lib.wp_append_run w s x t tn ho vs vx hs hx v' w' hr (hK _ _ h)
theorem due_two {w : World} {x y B m : Nat} {Sx Sy : Nat → Prop} {s t : NS} (hT : Two w x y B m Sx Sy s t) (hok : s.ok) (z : Int) :
    Calls Try.prog 12 #[.pointer (some ⟨x, 0, none⟩), .int .i64 z] w fun e w' => ∃ a k c S', e = .returned (.tuple #[.slice a k c, .int .i64 (dueS s z).2.1]) ∧ k = (dueS s z).1.length ∧ Told w' (fun g => S' g ∨ Sy g) (.slice a k c) ((dueS s z).1.map fun f => (f.h, f.d)) ∧ Two w' x y B m S' Sy (dueS s z).2.2 t ∧ (∀ g, S' g → Sx g) ∧ Tch (fun g => g = x) w w' := by
  refine (due_at hT.a hok z).mono ?_
  rintro e w' ⟨a, k, c, OP, T, h1, h2, h3, h4, h5, h6, h7⟩
  have hm := hT.a.mw
  have hz := h7.size
  have hsx := hT.a.sn
  refine ⟨a, k, c, _, h1, h2, ⟨w.heap.size, (dueS s z).1, T, OP, h3, rfl, fun g hg => ?_⟩, ⟨h6, hT.b.tch h7 (fun g hg e => hT.ne x hsx (e ▸ hg)), fun g hg hy => hT.ne g hg.1 hy⟩, fun g hg => hg.1, h7⟩
  rcases hg with hg | hg
  · refine ⟨Nat.lt_of_lt_of_le (h4 g hg).2.2 hz, fun hs => ?_⟩
    rcases hs with hs | hs
    · exact hs.2 hg
    · exact hT.ne g (h4 g hg).1 hs
  · have hl := h3.own.lt g hg
    refine ⟨hl.2, fun hs => ?_⟩
    rcases hs with hs | hs
    · have := hT.a.hi g hs.1; omega
    · have := hT.b.hi g hs; omega
theorem Two.snx {w : World} {x y B m : Nat} {Sx Sy : Nat → Prop} {s t : NS} (h : Two w x y B m Sx Sy s t) : Sx x := h.a.sn
/-- what was told, as a list that is appended -/
theorem Told.own {w : World} {S : Nat → Prop} {a : Option Addr} {n c : Nat} {L : List Pk} (h : Told w S (.slice a n c) L) : ∃ OP : List PD, Rd pkE w a n c OP ∧ OP.length = L.length ∧ ∀ (j : Nat) (q : PD) (x : Pk), OP[j]? = some q → L[j]? = some x → q.h = x.1 ∧ Rd byteE w q.da q.dn q.dc x.2 := h.rdP
theorem reads_app {w : World} {OP OQ : List PD} {L M : List Pk} (hl : OP.length = L.length) (h : ∀ (j : Nat) (q : PD) (x : Pk), OP[j]? = some q → L[j]? = some x → q.h = x.1 ∧ Rd byteE w q.da q.dn q.dc x.2) (h' : ∀ (j : Nat) (q : PD) (x : Pk), OQ[j]? = some q → M[j]? = some x → q.h = x.1 ∧ Rd byteE w q.da q.dn q.dc x.2) :
    ∀ (j : Nat) (q : PD) (x : Pk), (OP ++ OQ)[j]? = some q → (L ++ M)[j]? = some x → q.h = x.1 ∧ Rd byteE w q.da q.dn q.dc x.2 := fun j q x hq hx => by
  by_cases hj : j < OP.length
  · rw [List.getElem?_append_left hj] at hq
    rw [List.getElem?_append_left (by omega)] at hx
    exact h j q x hq hx
  · rw [List.getElem?_append_right (by omega)] at hq
    rw [List.getElem?_append_right (by omega)] at hx
    rw [hl] at hq
    exact h' _ q x hq hx
theorem app_pk {w : World} {base : Nat} {v : Value} {OP OQ : List PD} {a : Option Addr} {n c : Nat} (ho : Own pkE w base v OP) (hr : Rd pkE w a n c OQ) (hb : base ≤ w.heap.size) (h1 : OP.length ≤ 100000) (h2 : n ≤ 100000) :
    ∃ a' n' c' w', (Builtin.append_ #[35, 35] 35 #[v, .slice a n c]).run Try.prog w = .ok (.slice a' n' c') w' ∧ Own pkE w' base (.slice a' n' c') (OP ++ OQ) ∧ Below base w w' := by
  obtain ⟨i0, hi0, hz0, hz1, hz2⟩ := info_parts Try.info32
  have hl := hr.len
  obtain ⟨v', w', e1, e2, e3, e4⟩ := run_append_Own (P := Try.prog) pkE w base 35 35 35 i0 _ 40 (by kernel_rfl) hi0 hz0 hz1 hz2 rfl v OP ho _ OQ (hr.src (by kernel_rfl : Try.prog.underlying 35 = some (.slice 32))) (by simp [maxLen]; omega) (by omega) hb
  obtain ⟨a', c', e5⟩ := e2.shape
  subst e5
  exact ⟨a', _, c', w', e1, e2, (Below.refl base w).grown e3 hb (fun k hk => (ho.lt k hk).1)⟩
end Go.Proofs.Ythdnbipfdahnlaa
