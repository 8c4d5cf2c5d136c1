/- NetKeeps, the walk. Printed by gen_kp.py. -/
import Derived.Test.YthdnbipfdahnlaaNtR
import Derived.Test.YthdnbipfdahnlaaOpenJ
namespace Go.Proofs.Ythdnbipfdahnlaa
open Go Go.RowKit
theorem FromK.more {D : List (List UInt8)} {Y : List Int} {k : Nat} {f : Fl} (h : FromK D Y k f) (y : Int) : FromK D (Y ++ [y]) k f := by
  obtain ⟨i, d, z, h1, h2, h3, h4⟩ := h
  exact ⟨i, d, z, h1, h2, by rw [List.getElem?_append_left (List.getElem?_eq_some_iff.1 h3).1]; exact h3, h4⟩
theorem KInv.more {D : List (List UInt8)} {Y : List Int} {k dbl : Nat} {s : NS} (h : KInv D Y k dbl s) (y : Int) : KInv D (Y ++ [y]) k dbl s := ⟨h.ok, h.may, h.sent, h.lost, h.forged, h.taken, fun f hf => (h.src f hf).more y, h.two, h.len, h.dbl⟩
/-- the packets that were sent, as the law keeps them -/
def SentR (w w0 : World) (B : Nat) (v : Value) (D : List (List UInt8)) (k : Nat) : Prop := ∃ OP : List PD, Own pkE w B v OP ∧ OP.length = k ∧ ∀ (j : Nat) (q : PD) (d : List UInt8), OP[j]? = some q → D[j]? = some d → q.h = hdK j ∧ Rd byteE w0 q.da q.dn q.dc d ∧ q.dn ≤ 50
/-- k packets were sent -/
structure K1 (w w0 : World) (x B : Nat) (D : List (List UInt8)) (k dbl : Nat) (v u : Value) (m : Nat) (S : Nat → Prop) (s : NS) (Y : List Int) : Prop where
  net : NetA w x B m S s
  inv : KInv D Y k dbl s
  len : Y.length = k
  sent : SentR w w0 B v D k
  when : Own intE w B u Y
  ap : ∀ g, v.ownBlock = some g ∨ u.ownBlock = some g → ¬ S g
theorem kinv0 {D : List (List UInt8)} {F : List Fate} (h : F.length ≤ 60) (hm : ∀ f ∈ F, mayF f = true) : KInv D [] 0 0 ⟨F, 0, [], ⟨0, 0, 0, 0⟩⟩ where
  ok := ⟨srt0, by simp, by dsimp only; omega, by simp, by dsimp only; omega, by dsimp only; omega, by dsimp only; omega, by dsimp only; omega⟩
  may := hm
  sent := rfl
  lost := by dsimp only; omega
  forged := rfl
  taken := rfl
  src := fun f hf => by simp at hf
  two := fun i => by simp [cntP]
  len := by simp
  dbl := by omega
theorem rd_int_cell' {w : World} {b o n c : Nat} {M : List Int} (h : Rd intE w (some ⟨b, o, none⟩) n c M) {k : Nat} (hk : k < M.length) : w.cell? ⟨b, o + k, none⟩ = some (.int .i64 M[k]) := by
  obtain ⟨b', o', e, hc⟩ := h.at_ k hk 0 (by decide)
  cases e
  simpa [intE] using hc
theorem K1.ext {w w' w0 : World} {x B : Nat} {D : List (List UInt8)} {k dbl : Nat} {v u : Value} {m : Nat} {S : Nat → Prop} {s : NS} {Y : List Int} (h : K1 w w0 x B D k dbl v u m S s Y) (hb : Below w.heap.size w w') : K1 w' w0 x B D k dbl v u m S s Y := by
  obtain ⟨OP, h1, h2, h3⟩ := h.sent
  exact ⟨h.net.ext hb, h.inv, h.len, ⟨OP, h1.ext hb, h2, h3⟩, h.when.ext hb, h.ap⟩
theorem newE_may {F : List Fate} (h : newE F = 0) : ∀ f ∈ F, mayF f = true := by
  unfold newE at h
  split at h
  · cases h
  · split at h
    · rename_i h2; exact List.all_eq_true.1 h2
    · cases h
theorem newE_not {F : List Fate} (h : newE F ≠ 0) : newE F = 3 ∨ newE F = 2 := by
  unfold newE at h ⊢
  split
  · exact .inl rfl
  · rename_i h1
    rw [if_neg h1] at h
    split
    · rename_i h2; rw [if_pos h2] at h; exact absurd rfl h
    · exact .inr rfl
/-- while a packet is kept: the network, the packet at hand, both lists -/
structure Mid (w U : World) (x B m : Nat) (S : Nat → Prop) (s : NS) (v u : Value) (OP : List PD) (Y : List Int) (p : Nat) (C : List Value) : Prop where
  net : NetA U x B m S s
  blk : Blk U p 32 (0, 0) C
  ov : Own pkE U B v OP
  ou : Own intE U B u Y
  ap : ∀ g, v.ownBlock = some g ∨ u.ownBlock = some g → ¬ S g ∧ g ≠ p
  bel : Below w.heap.size w U
  bw : w.heap.size ≤ B
theorem Mid.ext {w U U' : World} {x B m : Nat} {S : Nat → Prop} {s : NS} {v u : Value} {OP : List PD} {Y : List Int} {p : Nat} {C : List Value} (h : Mid w U x B m S s v u OP Y p C) (hb : Below U.heap.size U U') : Mid w U' x B m S s v u OP Y p C :=
  ⟨h.net.ext hb, h.blk.below hb h.blk.lt, h.ov.ext hb, h.ou.ext hb, h.ap, h.bel.trans (hb.mono h.bel.size), h.bw⟩
theorem Mid.appv {w U U' : World} {x B m : Nat} {S : Nat → Prop} {s : NS} {v v' u : Value} {OP : List PD} {Y : List Int} {p : Nat} {C : List Value} (h : Mid w U x B m S s v u OP Y p C) {q : PD} (ho : Own pkE U' B v' (OP ++ [q])) (hg : U.grownBy U' v.ownBlock) (hb : v'.ownBlock = v.ownBlock ∨ v'.ownBlock = some U.heap.size) : Mid w U' x B m S s v' u (OP ++ [q]) Y p C := by
  have t : Tch (fun g => v.ownBlock = some g) U U' := Tch.of_grown hg (fun k hk => hk)
  refine ⟨h.net.tch t (fun g hs he => (h.ap g (.inl he)).1 hs), t.blk h.blk (fun he => (h.ap _ (.inl he)).2 rfl), ho, own_grown h.ou h.ov (by decide) hg, fun g hg2 => ?_, h.bel.trans (t.below (Nat.le_trans h.bw (Nat.le_trans h.net.bm h.net.mw)) (fun b _ hb => Nat.le_trans h.bw (h.ov.lt b hb).1)), h.bw⟩
  rcases hg2 with hg2 | hg2
  · rcases hb with hb | hb
    · exact h.ap g (.inl (hb ▸ hg2))
    · rw [hb] at hg2
      have e := Option.some.inj hg2
      have h1 := h.blk.lt
      have h2 := h.net.mw
      exact ⟨fun hs => by have := h.net.hi g hs; omega, by omega⟩
  · exact h.ap g (.inr hg2)
theorem Mid.appu {w U U' : World} {x B m : Nat} {S : Nat → Prop} {s : NS} {v u u' : Value} {OP : List PD} {Y : List Int} {p : Nat} {C : List Value} (h : Mid w U x B m S s v u OP Y p C) {q : Int} (ho : Own intE U' B u' (Y ++ [q])) (hg : U.grownBy U' u.ownBlock) (hb : u'.ownBlock = u.ownBlock ∨ u'.ownBlock = some U.heap.size) : Mid w U' x B m S s v u' OP (Y ++ [q]) p C := by
  have t : Tch (fun g => u.ownBlock = some g) U U' := Tch.of_grown hg (fun k hk => hk)
  refine ⟨h.net.tch t (fun g hs he => (h.ap g (.inr he)).1 hs), t.blk h.blk (fun he => (h.ap _ (.inr he)).2 rfl), own_grown h.ov h.ou (by decide) hg, ho, fun g hg2 => ?_, h.bel.trans (t.below (Nat.le_trans h.bw (Nat.le_trans h.net.bm h.net.mw)) (fun b _ hb => Nat.le_trans h.bw (h.ou.lt b hb).1)), h.bw⟩
  rcases hg2 with hg2 | hg2
  · exact h.ap g (.inl hg2)
  · rcases hb with hb | hb
    · exact h.ap g (.inr (hb ▸ hg2))
    · rw [hb] at hg2
      have e := Option.some.inj hg2
      have h1 := h.blk.lt
      have h2 := h.net.mw
      exact ⟨fun hs => by have := h.net.hi g hs; omega, by omega⟩
theorem own_pk1 (y : World) (k : Nat) (da : Option Addr) (dn dc : Nat) : Own pkE (y.alloc (.cells #[.int .u32 1, .int .u16 k, .int .u32 2, .int .u16 53, .bool false, .slice da dn dc] 32)) y.heap.size (.slice (some ⟨y.heap.size, 0, none⟩) 1 1) [⟨hdK k, da, dn, dc⟩] :=
  Own.made pkE y #[.int .u32 1, .int .u16 k, .int .u32 2, .int .u16 53, .bool false, .slice da dn dc] [⟨hdK k, da, dn, dc⟩] 1 rfl rfl (by decide)
theorem own_i1 (y : World) (z : Int) : Own intE (y.alloc (.cells #[.int .i64 z] 3)) y.heap.size (.slice (some ⟨y.heap.size, 0, none⟩) 1 1) [z] := Own.made intE y #[.int .i64 z] [z] 1 rfl rfl (by decide)
theorem Try.info3 : (Try.prog.info? 3).map (fun i => (i.zero, i.size, i.bytes)) = some (some (.int .i64 0), 1, 8) := by kernel_rfl
theorem Mid.runv {w U : World} {x B m : Nat} {S : Nat → Prop} {s : NS} {v u : Value} {OP : List PD} {Y : List Int} {p : Nat} {C : List Value} (hM : Mid w U x B m S s v u OP Y p C) (hl : OP.length ≤ 40) {q : PD} {lv : Value} {lb : Nat} (hL : Own pkE U lb lv [q]) :
    ∃ v' U', (Builtin.append_ #[35, 35] 35 #[v, lv]).run Try.prog U = .ok v' U' ∧ Mid w U' x B m S s v' u (OP ++ [q]) Y p C := by
  obtain ⟨i0, hi0, hz0, hz1, hz2⟩ := info_parts Try.info32
  obtain ⟨la, lc, e, hr⟩ := hL.rd
  subst e
  obtain ⟨v', U', h1, h2, h3, h4⟩ := run_append_Own (P := Try.prog) pkE U B 35 35 35 i0 _ 40 (by kernel_rfl) hi0 hz0 hz1 hz2 rfl v OP hM.ov _ [q] (hr.src (by kernel_rfl : Try.prog.underlying 35 = some (.slice 32))) (by simp [maxLen]; omega) (by simp; omega) (Nat.le_trans hM.net.bm hM.net.mw)
  exact ⟨v', U', h1, hM.appv h2 h3 h4⟩
theorem Mid.runu {w U : World} {x B m : Nat} {S : Nat → Prop} {s : NS} {v u : Value} {OP : List PD} {Y : List Int} {p : Nat} {C : List Value} (hM : Mid w U x B m S s v u OP Y p C) (hl : Y.length ≤ 40) {q : Int} {lv : Value} {lb : Nat} (hL : Own intE U lb lv [q]) :
    ∃ u' U', (Builtin.append_ #[22, 22] 22 #[u, lv]).run Try.prog U = .ok u' U' ∧ Mid w U' x B m S s v u' OP (Y ++ [q]) p C := by
  obtain ⟨i0, hi0, hz0, hz1, hz2⟩ := info_parts Try.info3
  obtain ⟨la, lc, e, hr⟩ := hL.rd
  subst e
  obtain ⟨v', U', h1, h2, h3, h4⟩ := run_append_Own (P := Try.prog) intE U B 22 22 22 i0 _ 8 (by kernel_rfl) hi0 hz0 hz1 hz2 rfl u Y hM.ou _ [q] (hr.src (by kernel_rfl : Try.prog.underlying 22 = some (.slice 3))) (by simp [maxLen]; omega) (by simp; omega) (Nat.le_trans hM.net.bm hM.net.mw)
  exact ⟨v', U', h1, hM.appu h2 h3 h4⟩
/-- one packet more was sent and kept -/
theorem Mid.k1 {w U w0 : World} {x B m : Nat} {S : Nat → Prop} {s : NS} {v u : Value} {OP : List PD} {Y : List Int} {p : Nat} {C : List Value} {D : List (List UInt8)} {k dbl : Nat} {z : Int} {da : Option Addr} {dn dc : Nat} {d : List UInt8} (h : Mid w U x B m S s v u (OP ++ [⟨hdK k, da, dn, dc⟩]) (Y ++ [z]) p C) (hi : KInv D (Y ++ [z]) (k + 1) dbl s) (hl : OP.length = k) (hY : Y.length = k)
    (hd : D[k]? = some d) (hr : Rd byteE w0 da dn dc d) (h50 : dn ≤ 50) (ha : ∀ (j : Nat) (q : PD) (d : List UInt8), OP[j]? = some q → D[j]? = some d → q.h = hdK j ∧ Rd byteE w0 q.da q.dn q.dc d ∧ q.dn ≤ 50) : K1 U w0 x B D (k + 1) dbl v u m S s (Y ++ [z]) := by
  refine ⟨h.net, hi, by simp [hY], ⟨_, h.ov, by simp [hl], fun j q e hq he => ?_⟩, h.ou, fun g hg => (h.ap g hg).1⟩
  by_cases hj : j < OP.length
  · rw [List.getElem?_append_left hj] at hq
    exact ha j q e hq he
  · rw [List.getElem?_append_right (by omega)] at hq
    obtain ⟨i, hi2⟩ : ∃ i, j - OP.length = i := ⟨_, rfl⟩
    rw [hi2] at hq
    cases i with
    | succ i => simp at hq
    | zero =>
      have e2 : j = k := by omega
      subst e2
      simp at hq
      subst hq
      rw [hd] at he
      cases he
      exact ⟨rfl, hr, h50⟩
/-- how often each number came among the first t -/
def cameC (A : List Fl) (t n : Nat) : List Value := (List.range n).map fun (i : Nat) => .int .i64 ((cntP i (A.take t) : Nat) : Int)
theorem cameC_zero (A : List Fl) (n : Nat) : cameC A 0 n = List.replicate n (.int .i64 0) := by
  unfold cameC
  refine List.ext_getElem (by simp) (fun i h1 h2 => ?_)
  simp [cntP]
theorem cameC_at (A : List Fl) (t n i : Nat) (h : i < n) : (cameC A t n)[i]? = some (.int .i64 ((cntP i (A.take t) : Nat) : Int)) := by
  unfold cameC
  simp [h]
theorem cameC_len (A : List Fl) (t n : Nat) : (cameC A t n).length = n := by unfold cameC; simp
theorem cameC_succ {A : List Fl} {t n i : Nat} {f : Fl} (hf : A[t]? = some f) (hi : f.h.fport = i) : (cameC A t n).set i (.int .i64 (((cntP i (A.take t) + 1 : Nat)) : Int)) = cameC A (t + 1) n := by
  refine List.ext_getElem (by simp [cameC_len]) (fun j h1 h2 => ?_)
  have hj : j < n := by rw [cameC_len] at h2; exact h2
  have e : (cameC A (t + 1) n)[j]? = some ((cameC A (t + 1) n)[j]) := List.getElem?_eq_getElem h2
  rw [cameC_at _ _ _ _ hj, cntP_succ _ _ _ _ hf, hi] at e
  have e2 := Option.some.inj e
  rw [← e2, List.getElem_set]
  by_cases hij : i = j
  · subst hij
    simp
  · rw [if_neg hij, if_neg (by omega)]
    have e3 : (cameC A t n)[j]? = some ((cameC A t n)[j]'(by rw [cameC_len]; exact hj)) := List.getElem?_eq_getElem _
    rw [cameC_at _ _ _ _ hj] at e3
    simpa using (Option.some.inj e3).symm
theorem make_ints (n : Nat) (hn : n ≤ 1000) : ∀ u : World, (Instr.makeSlice 22 (.int .i64 (n : Int)) (.int .i64 (n : Int))).run Try.prog u = .ok (.slice (some ⟨u.heap.size, 0, none⟩) n n) (u.alloc (.cells (madeCells #[.int .i64 0] n) 3)) := fun u => by
  obtain ⟨i0, hi, hz0, hz1, hz2⟩ := info_parts Try.info3
  have h := run_make (P := Try.prog) u 22 3 i0 (.int .i64 0) (by kernel_rfl) hi hz0 .i64 .i64 (n : Int) (n : Int) (by omega) (Int.le_refl _) (by rw [hz2]; omega) (by omega)
  have e : (n : Int).toNat = n := by omega
  rw [e] at h
  simpa [hz1, Value.cells] using h
theorem came_new (u : World) (A : List Fl) (n : Nat) : Blk (u.alloc (.cells (madeCells #[.int .i64 0] n) 3)) u.heap.size 3 (0, 0) (cameC A 0 n) := by
  rw [cameC_zero, ← madeCells_one]
  exact Blk.new u 3 (0, 0) _
theorem enter16 (args : Array Value) (w : World) : (callFunc 16 args).run Try.prog w = .ok (.enter 16 args) w := Go.MuLone.run_callFunc_enter Try.func16 (by kernel_rfl) (by rfl) args w
/-- while the network is emptied -/
structure Drn (w U : World) (x B m cb : Nat) (A : List Fl) (c : Cn) (k tc td : Nat) (S : Nat → Prop) (s : NS) (v u : Value) (OP : List PD) (Y : List Int) : Prop where
  net : NetA U x B m S s
  dr : KDr A c td s
  came : Blk U cb 3 (0, 0) (cameC A tc k)
  ov : Own pkE U B v OP
  ou : Own intE U B u Y
  ap : ∀ g, v.ownBlock = some g ∨ u.ownBlock = some g → ¬ S g ∧ g ≠ cb
  cs : ¬ S cb
  bel : Below w.heap.size w U
  bw : w.heap.size ≤ B
  bc : B ≤ cb
theorem Drn.ext {w U U' : World} {x B m cb : Nat} {A : List Fl} {c : Cn} {k tc td : Nat} {S : Nat → Prop} {s : NS} {v u : Value} {OP : List PD} {Y : List Int} (h : Drn w U x B m cb A c k tc td S s v u OP Y) (hb : Below U.heap.size U U') : Drn w U' x B m cb A c k tc td S s v u OP Y :=
  ⟨h.net.ext hb, h.dr, h.came.below hb h.came.lt, h.ov.ext hb, h.ou.ext hb, h.ap, h.cs, h.bel.trans (hb.mono h.bel.size), h.bw, h.bc⟩
/-- one more came -/
theorem Drn.inc {w U : World} {x B m cb : Nat} {A : List Fl} {c : Cn} {k tc td : Nat} {S : Nat → Prop} {s : NS} {v u : Value} {OP : List PD} {Y : List Int} (h : Drn w U x B m cb A c k tc td S s v u OP Y) {i : Nat} {f : Fl} (hf : A[tc]? = some f) (hi : f.h.fport = i) (z : Int) (hz : ((cntP i (A.take tc) + 1 : Nat) : Int) = z) (hi2 : i < k) : Drn w (U.setCell ⟨cb, i, none⟩ (.int .i64 z)) x B m cb A c k (tc + 1) td S s v u OP Y ∧ Tch (fun g => g = cb) U (U.setCell ⟨cb, i, none⟩ (.int .i64 z)) ∧ (U.setCell ⟨cb, i, none⟩ (.int .i64 z)).cell? ⟨cb, i, none⟩ = some (.int .i64 z) := by
  have t : Tch (fun g => g = cb) U (U.setCell ⟨cb, i, none⟩ (.int .i64 z)) := Tch.setCell (S := fun g => g = cb) U (p := ⟨cb, i, none⟩) rfl _
  have hs := h.came.set i (.int .i64 z)
  rw [← hz, cameC_succ hf hi, hz] at hs
  refine ⟨⟨h.net.tch t (fun g hg e => h.cs (e ▸ hg)), h.dr, hs, t.own h.ov (fun g hg => (h.ap g (.inl hg)).2), t.own h.ou (fun g hg => (h.ap g (.inr hg)).2), h.ap, h.cs, h.bel.trans (t.below (Nat.le_trans h.bw (Nat.le_trans h.net.bm h.net.mw)) (fun b _ hb => by rw [hb]; exact Nat.le_trans h.bw h.bc)), h.bw, h.bc⟩, t, ?_⟩
  rw [hs.cell, cameC_at _ _ _ _ hi2, cntP_succ _ _ _ _ hf, hi, if_pos rfl, hz]
/-- one moment is taken -/
theorem drn_due {w U : World} {x B m cb : Nat} {A : List Fl} {c : Cn} {k t td : Nat} {S : Nat → Prop} {s s' : NS} {v u : Value} {OP : List PD} {Y : List Int} {z : Int} {L : List Fl} (h : Drn w U x B m cb A c k t t S s v u OP Y) (hd : dueS s z = (L, 0, s')) (hk : KDr A c td s') :
    Calls Try.prog 12 #[.pointer (some ⟨x, 0, none⟩), .int .i64 z] U fun e w' => ∃ a n c' S', e = .returned (.tuple #[.slice a n c', .int .i64 0]) ∧ n = L.length ∧ Told w' (fun g => g = cb) (.slice a n c') (L.map fun f => (f.h, f.d)) ∧ Drn w w' x B m cb A c k t td S' s' v u OP Y := by
  refine (due_at h.net h.dr.ok z).mono ?_
  rintro e w' ⟨a, n, c', OQ, T, h1, h2, h3, h4, h5, h6, h7⟩
  rw [hd] at h1 h2 h3 h6
  have hsn := h.net.sn
  refine ⟨a, n, c', _, h1, h2, ⟨_, _, T, OQ, h3, rfl, fun g hg => ?_⟩, ⟨h6, hk, h7.blk h.came (fun e => h.cs (by rw [e]; exact hsn)), h7.own h.ov (fun g hg e => (h.ap g (.inl hg)).1 (by rw [e]; exact hsn)), h7.own h.ou (fun g hg e => (h.ap g (.inr hg)).1 (by rw [e]; exact hsn)), fun g hg => ⟨fun hs => (h.ap g hg).1 hs.1, (h.ap g hg).2⟩, fun hs => h.cs hs.1, h.bel.trans (h7.below (Nat.le_trans h.bw (Nat.le_trans h.net.bm h.net.mw)) (fun b _ hb => by rw [hb]; exact Nat.le_trans h.bw (h.net.lo _ hsn))), h.bw, h.bc⟩⟩
  have hc := h.came.lt
  rcases hg with hg | hg
  · have h8 := h4 g hg
    exact ⟨Nat.lt_of_lt_of_le h8.2.2 h7.size, fun e => h.cs (e ▸ h8.1)⟩
  · have h8 := h3.own.lt g hg
    exact ⟨h8.2, fun e => by omega⟩
theorem KInv.kdr {D : List (List UInt8)} {Y : List Int} {k dbl : Nat} {s : NS} (h : KInv D Y k dbl s) : KDr s.A s.c 0 s := ⟨h.ok, Nat.zero_le _, by simp, rfl, rfl, rfl, h.taken⟩
set_option maxHeartbeats 8000000 in
set_option maxRecDepth 100000 in
theorem keeps_any {w : World} {fa : Option Addr} {fn fc : Nat} {F : List Fate} (hF : Rd fateE w fa fn fc F) {a : Option Addr} {n c : Nat} {D : List (List UInt8)} (hD : RdB w a n c D) {ya : Option Addr} {yn yc : Nat} {M : List Int} (hM : Rd intE w ya yn yc M) :
    Calls Try.prog 4 #[.slice fa fn fc, .slice a n c, .slice ya yn yc] w fun e w' => e = .returned (.bool true) ∧ Below w.heap.size w w' := by
  have hFl := hF.len
  have hDl := hD.len
  have hMl := hM.len
  have hF' := Lib.hid hF
  have hD' := Lib.hid hD
  have hM' := Lib.hid hM
  clear hF hD hM
  have ha := Lib.hid (awake_any w)
  by_cases q0 : (60 : Int) < fn
  · go_enter Try.func4, Try.ntmps4
    go_wp2_with fail
    refine ha.out.mono ?_
    rintro e w1 ⟨rfl, hb⟩
    go_wp2_with fail
    go_ret
    exact ⟨rfl, hb⟩
  by_cases q1 : (40 : Int) < n
  · go_enter Try.func4, Try.ntmps4
    go_wp2_with fail
    refine ha.out.mono ?_
    rintro e w1 ⟨rfl, hb⟩
    go_wp2_with fail
    go_ret
    exact ⟨rfl, hb⟩
  by_cases q2 : (40 : Int) < yn
  · go_enter Try.func4, Try.ntmps4
    go_wp2_with fail
    refine ha.out.mono ?_
    rintro e w1 ⟨rfl, hb⟩
    go_wp2_with fail
    go_ret
    exact ⟨rfl, hb⟩
  go_enter Try.func4, Try.ntmps4
  go_wp2_with fail
  refine ha.out.mono ?_
  rintro e w1 ⟨rfl, hb1⟩
  clear ha
  have k1 := Lib.hid hb1
  have hnew := Lib.hid (new_any (hF'.out.ext hb1) (by omega))
  clear hb1
  go_wp2_with fail
  refine hnew.out.mono ?_
  rintro e w2 ⟨hB, hb2⟩
  have k2 := Lib.hid (k1.out.trans (hb2.mono k1.out.size))
  clear hnew
  unfold NewB at hB
  by_cases hE : newE F = 0
  rotate_left
  · rw [if_neg hE] at hB
    subst hB
    have hE2 := newE_not hE
    clear hE
    obtain hE2 | hE2 := hE2
    all_goals
      rw [hE2]
      go_wp2_with fail
      go_ret
      exact ⟨rfl, k2.out⟩
  rw [if_pos hE] at hB
  obtain ⟨x, rfl, hP⟩ := hB
  have hmay := Lib.hid (newE_may hE)
  have hk1 := k1.out.size
  have hA := Lib.hid (NetA.of hP (fun g hg => hg) hb2.size)
  clear hP hb2 hE
  have KI : KInv D [] 0 0 ⟨F, 0, [], ⟨0, 0, 0, 0⟩⟩ := kinv0 (by omega) hmay.out
  have K0 : Hid (∃ m S s YL, K1 w2 w x w1.heap.size D 0 0 (.slice none 0 0) (.slice none 0 0) m S s YL) := Lib.hid ⟨_, _, _, [], hA.out, KI, rfl, ⟨[], Own.nil _ _ _, rfl, fun j q d hq => by simp at hq⟩, Own.nil _ _ _, fun g hg => by simp [Value.ownBlock] at hg⟩
  clear KI hA hmay
  go_wp2_with fail
  go_loopw [10, 11, 12, 13, 14] (fun v nw db u i wr => ∃ (k dbl : Nat) (now : Int), k ≤ n ∧ i = .int .i64 k ∧ db = .int .i64 dbl ∧ nw = .int .i64 now ∧ (0 ≤ now ∧ now ≤ 100 * k) ∧ Hid (∃ m S s YL, K1 wr w x w1.heap.size D k dbl v u m S s YL) ∧ Hid (Below w.heap.size w wr)) (fun _ _ _ _ i _ => n - (intOf i).toNat)
  case atStart => exact ⟨0, 0, 0, Nat.zero_le _, rfl, rfl, rfl, by omega, K0, k2⟩
  case round =>
    obtain ⟨k, dbl, now, hk, rfl, rfl, rfl, ⟨hn0, hn1⟩, hK, hb⟩ := hrel
    clear K0 k2
    obtain ⟨m, S, s, YL, hK2⟩ := hK.out
    have hK' := Lib.hid hK2
    have hdb0 := hK2.inv.dbl
    clear hK hK2
    by_cases hlt : k < n
    · have hkI : (k : Int) < n := by omega
      have hk0 : 0 ≤ (k : Int) := by omega
      obtain ⟨db, do_, da, dn, dc, d, hDa, hdb, hdc0, hdk, hrd0, hdn⟩ := hD'.out.at_ hlt
      subst hDa
      have hdc : wr.cell? ⟨db, do_ + k, none⟩ = some (.slice da dn dc) := cell_later hb.out hdc0
      have hrd := hrd0.ext hb.out
      have hdlt : Hid (∀ b1 o1 s1, 0 < dn → da = some ⟨b1, o1, s1⟩ → b1 < w1.heap.size) := Lib.hid (fun b1 o1 s1 h0 e => by
        obtain ⟨b2, o2, e2, h2, _⟩ := hrd0.addr h0
        rw [e2] at e
        injection e with e
        injection e with e3
        omega)
      have hrw := Lib.hid hrd0
      clear hrd0 hdc0
      by_cases hs : k < yn
      · have hsI : (k : Int) < yn := by omega
        have hkM : k < M.length := by omega
        obtain ⟨b, o, rfl, hbs, _⟩ := (hM'.out.ext hb.out).addr (by omega)
        have hcz := rd_int_cell' (hM'.out.ext hb.out) hkM
        obtain ⟨z, hz⟩ : ∃ z, M[k] = z := ⟨_, rfl⟩
        rw [hz] at hcz
        clear hz
        by_cases hz0 : 0 < z
        · by_cases hz1 : z < 100
          · go_upto_region 15 with (fail)
            obtain ⟨now2, hnow2⟩ : ∃ x : Int, now + z = x := ⟨_, rfl⟩
            have hw0 : 0 ≤ now2 ∧ now2 ≤ 100 * ((k : Int) + 1) := by omega
            try rw [hnow2]
            clear hnow2
            by_cases hbig : 50 < dn
            · have hbI : (50 : Int) < dn := by omega
              go_wp2_with fail
              go_ret
              exact ⟨rfl, hb.out⟩
            have hbI : ¬ (50 : Int) < dn := by omega
            have hby := Lib.hid (bytes_any wr da dn dc)
            dsimp only [pkV, hdB] at hby
            go_wp2_with fail
            refine hby.out.mono ?_
            rintro e w5 ⟨rfl, hb5⟩
            have k5 := Lib.hid hb5
            clear hby hb5
            obtain ⟨W6, hW6⟩ : ∃ W, w5.alloc (.cells #[.int .u32 0, .int .u16 0, .int .u32 0, .int .u16 0, .bool false, .slice none 0 0] 32) = W := ⟨_, rfl⟩
            have B6 : Hid (Blk W6 w5.heap.size 32 (0, 0) [.int .u32 0, .int .u16 0, .int .u32 0, .int .u16 0, .bool false, .slice none 0 0]) := Lib.hid (by rw [← hW6]; exact Blk.new w5 32 (0, 0) #[.int .u32 0, .int .u16 0, .int .u32 0, .int .u16 0, .bool false, .slice none 0 0])
            have k6 : Hid (Below w5.heap.size w5 W6) := Lib.hid (by rw [← hW6]; exact alloc_bel _ _)
            go_upto_region 18 with (refine store_whole rfl 32 (.tmp 15) (.tmp 103) rfl rfl rfl B6.out (by rfl) (by kernel_rfl) (by first | kernel_rfl | rfl) ?_; intro w7 hBx hgx hzx; have R7 := Lib.hid hBx; have g7 := Lib.hid (fresh_store k6.out hgx); clear hBx hgx hzx)
            try clear hW6
            have k7 := Lib.hid (k5.out.trans (g7.out.mono k5.out.size))
            have hl5 : Hid (wr.heap.size ≤ w5.heap.size) := Lib.hid k5.out.size
            clear k5 g7 B6 k6
            have f1 : w7.frozen? ⟨w5.heap.size, 1, none⟩ = false := by rw [R7.out.frozen]; try simp
            have c1 : w7.cell? ⟨w5.heap.size, 1, none⟩ = some (.int .u16 0) := (R7.out.cell 1).trans rfl
            go_upto_region 19 with (fail)
            obtain ⟨V, hV⟩ : ∃ V, w7.setCell ⟨w5.heap.size, 1, none⟩ (.int .u16 (k : Int)) = V := ⟨_, rfl⟩
            try rw [hV]
            have RV : Hid (Blk V w5.heap.size 32 (0, 0) [.int .u32 1, .int .u16 k, .int .u32 2, .int .u16 53, .bool false, .slice da dn dc]) := Lib.hid (by rw [← hV]; exact R7.out.set 1 _)
            have hgV : w7.grownBy V (some w5.heap.size) := by rw [← hV]; exact grown_set _ _ _ _
            have kV := Lib.hid (k7.out.grown hgV k7.out.size (fun g hg => by have := Option.some.inj hg; have := hl5.out; omega))
            clear hV hgV f1 c1 R7 k7
            have KV := Lib.hid (hK'.out.ext kV.out)
            have hrV := Lib.hid (hrd.ext kV.out)
            obtain ⟨ct, s2, hS, hct, hI2⟩ := keep_step (KV.out.inv.more now2) (by omega) hdk (by have := hrd.len; omega) (by rw [List.getElem?_append_right (by have := KV.out.len; omega), KV.out.len]; simp) hw0.1 (by omega)
            have hI2' := Lib.hid hI2
            have hct' := Lib.hid hct
            clear hI2 hct
            have hs_ := Lib.hid (send_at0 KV.out.net KV.out.inv.ok KV.out.inv.may (hdK k) hrV.out (fun b1 o1 s1 h0 e hb1 => by have h1 := KV.out.net.lo b1 hb1; have h2 := hdlt.out b1 o1 s1 h0 e; omega) hdn now2)
            rw [hS] at hs_
            dsimp only [pkV, hdK] at hs_
            clear hS
            have p0 : V.cell? ⟨w5.heap.size, 0, none⟩ = some (.int .u32 1) := (RV.out.cell 0).trans rfl
            have p1 : V.cell? ⟨w5.heap.size, 1, none⟩ = some (.int .u16 k) := (RV.out.cell 1).trans rfl
            have p2 : V.cell? ⟨w5.heap.size, 2, none⟩ = some (.int .u32 2) := (RV.out.cell 2).trans rfl
            have p3 : V.cell? ⟨w5.heap.size, 3, none⟩ = some (.int .u16 53) := (RV.out.cell 3).trans rfl
            have p4 : V.cell? ⟨w5.heap.size, 4, none⟩ = some (.bool false) := (RV.out.cell 4).trans rfl
            have p5 : V.cell? ⟨w5.heap.size, 5, none⟩ = some (.slice da dn dc) := (RV.out.cell 5).trans rfl
            go_wp2_with fail
            refine hs_.out.mono ?_
            rintro e y ⟨rfl, ⟨S2, hA2, hSS⟩, ht⟩
            have A2 := Lib.hid hA2
            have SS2 := Lib.hid hSS
            have T2 := Lib.hid ht
            have RY := Lib.hid (ht.blk RV.out (fun hb1 => by have := KV.out.net.hi _ hb1; have := hK'.out.net.mw; have := hl5.out; omega))
            have kY := Lib.hid ((hb.out.trans (kV.out.mono hb.out.size)).trans (ht.below (hb.out.trans (kV.out.mono hb.out.size)).size (fun b1 _ hb1 => Nat.le_trans hk1 (KV.out.net.lo b1 hb1))))
            have OY : Hid (SentR y w w1.heap.size u10 D k) := Lib.hid (by obtain ⟨OP, h1, h2, h3⟩ := KV.out.sent; exact ⟨OP, ht.own h1 (fun g hg hs1 => KV.out.ap g (.inl hg) hs1), h2, h3⟩)
            have WY : Hid (Own intE y w1.heap.size u13 YL) := Lib.hid (ht.own KV.out.when (fun g hg hs1 => KV.out.ap g (.inr hg) hs1))
            have aY : Hid (∀ g, u10.ownBlock = some g ∨ u13.ownBlock = some g → ¬ S2 g) := Lib.hid (fun g hg hs1 => by rcases SS2.out g hs1 with h1 | h1; exact KV.out.ap g hg h1; rcases hg with hg | hg; (obtain ⟨OP, h2, _⟩ := KV.out.sent; have := (h2.lt g hg).2; omega); (have := (KV.out.when.lt g hg).2; omega))
            clear hA2 hSS ht hs_ p0 p1 p2 p3 p4 p5 RV kV
            obtain hc | hc | hc : ct = 0 ∨ ct = 1 ∨ ct = 2 := by have := hct'.out; omega
            all_goals
              subst hc
              go_upto_region 24 with (fail)
            all_goals
              obtain ⟨OP, hO1, hO2, hO3⟩ := OY.out
              have M0 : Hid (Mid w y x w1.heap.size _ S2 s2 u10 u13 OP YL w5.heap.size [.int .u32 1, .int .u16 k, .int .u32 2, .int .u16 53, .bool false, .slice da dn dc]) := Lib.hid ⟨A2.out, RY.out, hO1, WY.out, fun g hg => ⟨aY.out g hg, fun e => by rw [e] at hg; have h1 := hl5.out; rcases hg with hg | hg; (have h2 := hK'.out.sent; obtain ⟨OP2, h3, _⟩ := h2; have := (h3.lt _ hg).2; omega); (have := (hK'.out.when.lt _ hg).2; omega)⟩, kY.out, hk1⟩
              have hO3' := Lib.hid hO3
              clear hO1 hO3 RY kY OY WY aY
              obtain ⟨W1, hW1⟩ : ∃ W, y.alloc (.cells #[.int .u32 1, .int .u16 k, .int .u32 2, .int .u16 53, .bool false, .slice da dn dc] 32) = W := ⟨_, rfl⟩
              have L1 : Own pkE W1 y.heap.size (.slice (some ⟨y.heap.size, 0, none⟩) 1 1) [⟨hdK k, da, dn, dc⟩] := by rw [← hW1]; exact own_pk1 y k da dn dc
              have j1 : Below y.heap.size y W1 := by rw [← hW1]; exact alloc_bel _ _
              obtain ⟨v2, W2, r1, M2⟩ := (M0.out.ext j1).runv (by omega) L1
              obtain ⟨W3, hW3⟩ : ∃ W, W2.alloc (.cells #[.int .i64 now2] 3) = W := ⟨_, rfl⟩
              have L3 : Own intE W3 W2.heap.size (.slice (some ⟨W2.heap.size, 0, none⟩) 1 1) [now2] := by rw [← hW3]; exact own_i1 W2 now2
              have j3 : Below W2.heap.size W2 W3 := by rw [← hW3]; exact alloc_bel _ _
              obtain ⟨v4, W4, r3, M4⟩ := (M2.ext j3).runu (by have := hK'.out.len; omega) L3
              have KF := Lib.hid (M4.k1 hI2'.out hO2 hK'.out.len hdk hrw.out (by omega) hO3'.out)
              have kF := Lib.hid M4.bel
              have p0 : y.cell? ⟨w5.heap.size, 0, none⟩ = some (.int .u32 1) := (M0.out.blk.cell 0).trans rfl
              have p1 : y.cell? ⟨w5.heap.size, 1, none⟩ = some (.int .u16 k) := (M0.out.blk.cell 1).trans rfl
              have p2 : y.cell? ⟨w5.heap.size, 2, none⟩ = some (.int .u32 2) := (M0.out.blk.cell 2).trans rfl
              have p3 : y.cell? ⟨w5.heap.size, 3, none⟩ = some (.int .u16 53) := (M0.out.blk.cell 3).trans rfl
              have p4 : y.cell? ⟨w5.heap.size, 4, none⟩ = some (.bool false) := (M0.out.blk.cell 4).trans rfl
              have p5 : y.cell? ⟨w5.heap.size, 5, none⟩ = some (.slice da dn dc) := (M0.out.blk.cell 5).trans rfl
              have r1' := Lib.hid r1
              have r3' := Lib.hid r3
              clear L1 j1 r1 M2 L3 j3 r3 M4 M0
              go_wp2_with (first | refine wpList_append_on _ (by rfl) (.tmp 128) (.tmp 130) 35 35 rfl u10 (.slice (some ⟨y.heap.size, 0, none⟩) 1 1) (by rfl) (by rfl) v2 W2 r1'.out ?_ | refine wpList_append_on _ (by rfl) (.tmp 132) (.tmp 134) 22 22 rfl u13 (.slice (some ⟨W2.heap.size, 0, none⟩) 1 1) (by rfl) (by rfl) v4 W4 r3'.out ?_)
              first | exact ⟨⟨k + 1, dbl, now2, by omega, by go_num, rfl, rfl, by omega, Lib.hid ⟨_, _, _, _, KF.out⟩, kF⟩, by simp [intOf]; omega⟩ | exact ⟨⟨k + 1, dbl + 1, now2, by omega, by go_num, by go_num, rfl, by omega, Lib.hid ⟨_, _, _, _, KF.out⟩, kF⟩, by simp [intOf]; omega⟩
          · go_upto_region 15 with (fail)
            obtain ⟨now2, hnow2⟩ : ∃ x : Int, now = x := ⟨_, rfl⟩
            have hw0 : 0 ≤ now2 ∧ now2 ≤ 100 * ((k : Int) + 1) := by omega
            try rw [hnow2]
            clear hnow2
            by_cases hbig : 50 < dn
            · have hbI : (50 : Int) < dn := by omega
              go_wp2_with fail
              go_ret
              exact ⟨rfl, hb.out⟩
            have hbI : ¬ (50 : Int) < dn := by omega
            have hby := Lib.hid (bytes_any wr da dn dc)
            dsimp only [pkV, hdB] at hby
            go_wp2_with fail
            refine hby.out.mono ?_
            rintro e w5 ⟨rfl, hb5⟩
            have k5 := Lib.hid hb5
            clear hby hb5
            obtain ⟨W6, hW6⟩ : ∃ W, w5.alloc (.cells #[.int .u32 0, .int .u16 0, .int .u32 0, .int .u16 0, .bool false, .slice none 0 0] 32) = W := ⟨_, rfl⟩
            have B6 : Hid (Blk W6 w5.heap.size 32 (0, 0) [.int .u32 0, .int .u16 0, .int .u32 0, .int .u16 0, .bool false, .slice none 0 0]) := Lib.hid (by rw [← hW6]; exact Blk.new w5 32 (0, 0) #[.int .u32 0, .int .u16 0, .int .u32 0, .int .u16 0, .bool false, .slice none 0 0])
            have k6 : Hid (Below w5.heap.size w5 W6) := Lib.hid (by rw [← hW6]; exact alloc_bel _ _)
            go_upto_region 18 with (refine store_whole rfl 32 (.tmp 15) (.tmp 103) rfl rfl rfl B6.out (by rfl) (by kernel_rfl) (by first | kernel_rfl | rfl) ?_; intro w7 hBx hgx hzx; have R7 := Lib.hid hBx; have g7 := Lib.hid (fresh_store k6.out hgx); clear hBx hgx hzx)
            try clear hW6
            have k7 := Lib.hid (k5.out.trans (g7.out.mono k5.out.size))
            have hl5 : Hid (wr.heap.size ≤ w5.heap.size) := Lib.hid k5.out.size
            clear k5 g7 B6 k6
            have f1 : w7.frozen? ⟨w5.heap.size, 1, none⟩ = false := by rw [R7.out.frozen]; try simp
            have c1 : w7.cell? ⟨w5.heap.size, 1, none⟩ = some (.int .u16 0) := (R7.out.cell 1).trans rfl
            go_upto_region 19 with (fail)
            obtain ⟨V, hV⟩ : ∃ V, w7.setCell ⟨w5.heap.size, 1, none⟩ (.int .u16 (k : Int)) = V := ⟨_, rfl⟩
            try rw [hV]
            have RV : Hid (Blk V w5.heap.size 32 (0, 0) [.int .u32 1, .int .u16 k, .int .u32 2, .int .u16 53, .bool false, .slice da dn dc]) := Lib.hid (by rw [← hV]; exact R7.out.set 1 _)
            have hgV : w7.grownBy V (some w5.heap.size) := by rw [← hV]; exact grown_set _ _ _ _
            have kV := Lib.hid (k7.out.grown hgV k7.out.size (fun g hg => by have := Option.some.inj hg; have := hl5.out; omega))
            clear hV hgV f1 c1 R7 k7
            have KV := Lib.hid (hK'.out.ext kV.out)
            have hrV := Lib.hid (hrd.ext kV.out)
            obtain ⟨ct, s2, hS, hct, hI2⟩ := keep_step (KV.out.inv.more now2) (by omega) hdk (by have := hrd.len; omega) (by rw [List.getElem?_append_right (by have := KV.out.len; omega), KV.out.len]; simp) hw0.1 (by omega)
            have hI2' := Lib.hid hI2
            have hct' := Lib.hid hct
            clear hI2 hct
            have hs_ := Lib.hid (send_at0 KV.out.net KV.out.inv.ok KV.out.inv.may (hdK k) hrV.out (fun b1 o1 s1 h0 e hb1 => by have h1 := KV.out.net.lo b1 hb1; have h2 := hdlt.out b1 o1 s1 h0 e; omega) hdn now2)
            rw [hS] at hs_
            dsimp only [pkV, hdK] at hs_
            clear hS
            have p0 : V.cell? ⟨w5.heap.size, 0, none⟩ = some (.int .u32 1) := (RV.out.cell 0).trans rfl
            have p1 : V.cell? ⟨w5.heap.size, 1, none⟩ = some (.int .u16 k) := (RV.out.cell 1).trans rfl
            have p2 : V.cell? ⟨w5.heap.size, 2, none⟩ = some (.int .u32 2) := (RV.out.cell 2).trans rfl
            have p3 : V.cell? ⟨w5.heap.size, 3, none⟩ = some (.int .u16 53) := (RV.out.cell 3).trans rfl
            have p4 : V.cell? ⟨w5.heap.size, 4, none⟩ = some (.bool false) := (RV.out.cell 4).trans rfl
            have p5 : V.cell? ⟨w5.heap.size, 5, none⟩ = some (.slice da dn dc) := (RV.out.cell 5).trans rfl
            go_wp2_with fail
            refine hs_.out.mono ?_
            rintro e y ⟨rfl, ⟨S2, hA2, hSS⟩, ht⟩
            have A2 := Lib.hid hA2
            have SS2 := Lib.hid hSS
            have T2 := Lib.hid ht
            have RY := Lib.hid (ht.blk RV.out (fun hb1 => by have := KV.out.net.hi _ hb1; have := hK'.out.net.mw; have := hl5.out; omega))
            have kY := Lib.hid ((hb.out.trans (kV.out.mono hb.out.size)).trans (ht.below (hb.out.trans (kV.out.mono hb.out.size)).size (fun b1 _ hb1 => Nat.le_trans hk1 (KV.out.net.lo b1 hb1))))
            have OY : Hid (SentR y w w1.heap.size u10 D k) := Lib.hid (by obtain ⟨OP, h1, h2, h3⟩ := KV.out.sent; exact ⟨OP, ht.own h1 (fun g hg hs1 => KV.out.ap g (.inl hg) hs1), h2, h3⟩)
            have WY : Hid (Own intE y w1.heap.size u13 YL) := Lib.hid (ht.own KV.out.when (fun g hg hs1 => KV.out.ap g (.inr hg) hs1))
            have aY : Hid (∀ g, u10.ownBlock = some g ∨ u13.ownBlock = some g → ¬ S2 g) := Lib.hid (fun g hg hs1 => by rcases SS2.out g hs1 with h1 | h1; exact KV.out.ap g hg h1; rcases hg with hg | hg; (obtain ⟨OP, h2, _⟩ := KV.out.sent; have := (h2.lt g hg).2; omega); (have := (KV.out.when.lt g hg).2; omega))
            clear hA2 hSS ht hs_ p0 p1 p2 p3 p4 p5 RV kV
            obtain hc | hc | hc : ct = 0 ∨ ct = 1 ∨ ct = 2 := by have := hct'.out; omega
            all_goals
              subst hc
              go_upto_region 24 with (fail)
            all_goals
              obtain ⟨OP, hO1, hO2, hO3⟩ := OY.out
              have M0 : Hid (Mid w y x w1.heap.size _ S2 s2 u10 u13 OP YL w5.heap.size [.int .u32 1, .int .u16 k, .int .u32 2, .int .u16 53, .bool false, .slice da dn dc]) := Lib.hid ⟨A2.out, RY.out, hO1, WY.out, fun g hg => ⟨aY.out g hg, fun e => by rw [e] at hg; have h1 := hl5.out; rcases hg with hg | hg; (have h2 := hK'.out.sent; obtain ⟨OP2, h3, _⟩ := h2; have := (h3.lt _ hg).2; omega); (have := (hK'.out.when.lt _ hg).2; omega)⟩, kY.out, hk1⟩
              have hO3' := Lib.hid hO3
              clear hO1 hO3 RY kY OY WY aY
              obtain ⟨W1, hW1⟩ : ∃ W, y.alloc (.cells #[.int .u32 1, .int .u16 k, .int .u32 2, .int .u16 53, .bool false, .slice da dn dc] 32) = W := ⟨_, rfl⟩
              have L1 : Own pkE W1 y.heap.size (.slice (some ⟨y.heap.size, 0, none⟩) 1 1) [⟨hdK k, da, dn, dc⟩] := by rw [← hW1]; exact own_pk1 y k da dn dc
              have j1 : Below y.heap.size y W1 := by rw [← hW1]; exact alloc_bel _ _
              obtain ⟨v2, W2, r1, M2⟩ := (M0.out.ext j1).runv (by omega) L1
              obtain ⟨W3, hW3⟩ : ∃ W, W2.alloc (.cells #[.int .i64 now2] 3) = W := ⟨_, rfl⟩
              have L3 : Own intE W3 W2.heap.size (.slice (some ⟨W2.heap.size, 0, none⟩) 1 1) [now2] := by rw [← hW3]; exact own_i1 W2 now2
              have j3 : Below W2.heap.size W2 W3 := by rw [← hW3]; exact alloc_bel _ _
              obtain ⟨v4, W4, r3, M4⟩ := (M2.ext j3).runu (by have := hK'.out.len; omega) L3
              have KF := Lib.hid (M4.k1 hI2'.out hO2 hK'.out.len hdk hrw.out (by omega) hO3'.out)
              have kF := Lib.hid M4.bel
              have p0 : y.cell? ⟨w5.heap.size, 0, none⟩ = some (.int .u32 1) := (M0.out.blk.cell 0).trans rfl
              have p1 : y.cell? ⟨w5.heap.size, 1, none⟩ = some (.int .u16 k) := (M0.out.blk.cell 1).trans rfl
              have p2 : y.cell? ⟨w5.heap.size, 2, none⟩ = some (.int .u32 2) := (M0.out.blk.cell 2).trans rfl
              have p3 : y.cell? ⟨w5.heap.size, 3, none⟩ = some (.int .u16 53) := (M0.out.blk.cell 3).trans rfl
              have p4 : y.cell? ⟨w5.heap.size, 4, none⟩ = some (.bool false) := (M0.out.blk.cell 4).trans rfl
              have p5 : y.cell? ⟨w5.heap.size, 5, none⟩ = some (.slice da dn dc) := (M0.out.blk.cell 5).trans rfl
              have r1' := Lib.hid r1
              have r3' := Lib.hid r3
              clear L1 j1 r1 M2 L3 j3 r3 M4 M0
              go_wp2_with (first | refine wpList_append_on _ (by rfl) (.tmp 128) (.tmp 130) 35 35 rfl u10 (.slice (some ⟨y.heap.size, 0, none⟩) 1 1) (by rfl) (by rfl) v2 W2 r1'.out ?_ | refine wpList_append_on _ (by rfl) (.tmp 132) (.tmp 134) 22 22 rfl u13 (.slice (some ⟨W2.heap.size, 0, none⟩) 1 1) (by rfl) (by rfl) v4 W4 r3'.out ?_)
              first | exact ⟨⟨k + 1, dbl, now2, by omega, by go_num, rfl, rfl, by omega, Lib.hid ⟨_, _, _, _, KF.out⟩, kF⟩, by simp [intOf]; omega⟩ | exact ⟨⟨k + 1, dbl + 1, now2, by omega, by go_num, by go_num, rfl, by omega, Lib.hid ⟨_, _, _, _, KF.out⟩, kF⟩, by simp [intOf]; omega⟩
        · go_upto_region 15 with (fail)
          obtain ⟨now2, hnow2⟩ : ∃ x : Int, now = x := ⟨_, rfl⟩
          have hw0 : 0 ≤ now2 ∧ now2 ≤ 100 * ((k : Int) + 1) := by omega
          try rw [hnow2]
          clear hnow2
          by_cases hbig : 50 < dn
          · have hbI : (50 : Int) < dn := by omega
            go_wp2_with fail
            go_ret
            exact ⟨rfl, hb.out⟩
          have hbI : ¬ (50 : Int) < dn := by omega
          have hby := Lib.hid (bytes_any wr da dn dc)
          dsimp only [pkV, hdB] at hby
          go_wp2_with fail
          refine hby.out.mono ?_
          rintro e w5 ⟨rfl, hb5⟩
          have k5 := Lib.hid hb5
          clear hby hb5
          obtain ⟨W6, hW6⟩ : ∃ W, w5.alloc (.cells #[.int .u32 0, .int .u16 0, .int .u32 0, .int .u16 0, .bool false, .slice none 0 0] 32) = W := ⟨_, rfl⟩
          have B6 : Hid (Blk W6 w5.heap.size 32 (0, 0) [.int .u32 0, .int .u16 0, .int .u32 0, .int .u16 0, .bool false, .slice none 0 0]) := Lib.hid (by rw [← hW6]; exact Blk.new w5 32 (0, 0) #[.int .u32 0, .int .u16 0, .int .u32 0, .int .u16 0, .bool false, .slice none 0 0])
          have k6 : Hid (Below w5.heap.size w5 W6) := Lib.hid (by rw [← hW6]; exact alloc_bel _ _)
          go_upto_region 18 with (refine store_whole rfl 32 (.tmp 15) (.tmp 103) rfl rfl rfl B6.out (by rfl) (by kernel_rfl) (by first | kernel_rfl | rfl) ?_; intro w7 hBx hgx hzx; have R7 := Lib.hid hBx; have g7 := Lib.hid (fresh_store k6.out hgx); clear hBx hgx hzx)
          try clear hW6
          have k7 := Lib.hid (k5.out.trans (g7.out.mono k5.out.size))
          have hl5 : Hid (wr.heap.size ≤ w5.heap.size) := Lib.hid k5.out.size
          clear k5 g7 B6 k6
          have f1 : w7.frozen? ⟨w5.heap.size, 1, none⟩ = false := by rw [R7.out.frozen]; try simp
          have c1 : w7.cell? ⟨w5.heap.size, 1, none⟩ = some (.int .u16 0) := (R7.out.cell 1).trans rfl
          go_upto_region 19 with (fail)
          obtain ⟨V, hV⟩ : ∃ V, w7.setCell ⟨w5.heap.size, 1, none⟩ (.int .u16 (k : Int)) = V := ⟨_, rfl⟩
          try rw [hV]
          have RV : Hid (Blk V w5.heap.size 32 (0, 0) [.int .u32 1, .int .u16 k, .int .u32 2, .int .u16 53, .bool false, .slice da dn dc]) := Lib.hid (by rw [← hV]; exact R7.out.set 1 _)
          have hgV : w7.grownBy V (some w5.heap.size) := by rw [← hV]; exact grown_set _ _ _ _
          have kV := Lib.hid (k7.out.grown hgV k7.out.size (fun g hg => by have := Option.some.inj hg; have := hl5.out; omega))
          clear hV hgV f1 c1 R7 k7
          have KV := Lib.hid (hK'.out.ext kV.out)
          have hrV := Lib.hid (hrd.ext kV.out)
          obtain ⟨ct, s2, hS, hct, hI2⟩ := keep_step (KV.out.inv.more now2) (by omega) hdk (by have := hrd.len; omega) (by rw [List.getElem?_append_right (by have := KV.out.len; omega), KV.out.len]; simp) hw0.1 (by omega)
          have hI2' := Lib.hid hI2
          have hct' := Lib.hid hct
          clear hI2 hct
          have hs_ := Lib.hid (send_at0 KV.out.net KV.out.inv.ok KV.out.inv.may (hdK k) hrV.out (fun b1 o1 s1 h0 e hb1 => by have h1 := KV.out.net.lo b1 hb1; have h2 := hdlt.out b1 o1 s1 h0 e; omega) hdn now2)
          rw [hS] at hs_
          dsimp only [pkV, hdK] at hs_
          clear hS
          have p0 : V.cell? ⟨w5.heap.size, 0, none⟩ = some (.int .u32 1) := (RV.out.cell 0).trans rfl
          have p1 : V.cell? ⟨w5.heap.size, 1, none⟩ = some (.int .u16 k) := (RV.out.cell 1).trans rfl
          have p2 : V.cell? ⟨w5.heap.size, 2, none⟩ = some (.int .u32 2) := (RV.out.cell 2).trans rfl
          have p3 : V.cell? ⟨w5.heap.size, 3, none⟩ = some (.int .u16 53) := (RV.out.cell 3).trans rfl
          have p4 : V.cell? ⟨w5.heap.size, 4, none⟩ = some (.bool false) := (RV.out.cell 4).trans rfl
          have p5 : V.cell? ⟨w5.heap.size, 5, none⟩ = some (.slice da dn dc) := (RV.out.cell 5).trans rfl
          go_wp2_with fail
          refine hs_.out.mono ?_
          rintro e y ⟨rfl, ⟨S2, hA2, hSS⟩, ht⟩
          have A2 := Lib.hid hA2
          have SS2 := Lib.hid hSS
          have T2 := Lib.hid ht
          have RY := Lib.hid (ht.blk RV.out (fun hb1 => by have := KV.out.net.hi _ hb1; have := hK'.out.net.mw; have := hl5.out; omega))
          have kY := Lib.hid ((hb.out.trans (kV.out.mono hb.out.size)).trans (ht.below (hb.out.trans (kV.out.mono hb.out.size)).size (fun b1 _ hb1 => Nat.le_trans hk1 (KV.out.net.lo b1 hb1))))
          have OY : Hid (SentR y w w1.heap.size u10 D k) := Lib.hid (by obtain ⟨OP, h1, h2, h3⟩ := KV.out.sent; exact ⟨OP, ht.own h1 (fun g hg hs1 => KV.out.ap g (.inl hg) hs1), h2, h3⟩)
          have WY : Hid (Own intE y w1.heap.size u13 YL) := Lib.hid (ht.own KV.out.when (fun g hg hs1 => KV.out.ap g (.inr hg) hs1))
          have aY : Hid (∀ g, u10.ownBlock = some g ∨ u13.ownBlock = some g → ¬ S2 g) := Lib.hid (fun g hg hs1 => by rcases SS2.out g hs1 with h1 | h1; exact KV.out.ap g hg h1; rcases hg with hg | hg; (obtain ⟨OP, h2, _⟩ := KV.out.sent; have := (h2.lt g hg).2; omega); (have := (KV.out.when.lt g hg).2; omega))
          clear hA2 hSS ht hs_ p0 p1 p2 p3 p4 p5 RV kV
          obtain hc | hc | hc : ct = 0 ∨ ct = 1 ∨ ct = 2 := by have := hct'.out; omega
          all_goals
            subst hc
            go_upto_region 24 with (fail)
          all_goals
            obtain ⟨OP, hO1, hO2, hO3⟩ := OY.out
            have M0 : Hid (Mid w y x w1.heap.size _ S2 s2 u10 u13 OP YL w5.heap.size [.int .u32 1, .int .u16 k, .int .u32 2, .int .u16 53, .bool false, .slice da dn dc]) := Lib.hid ⟨A2.out, RY.out, hO1, WY.out, fun g hg => ⟨aY.out g hg, fun e => by rw [e] at hg; have h1 := hl5.out; rcases hg with hg | hg; (have h2 := hK'.out.sent; obtain ⟨OP2, h3, _⟩ := h2; have := (h3.lt _ hg).2; omega); (have := (hK'.out.when.lt _ hg).2; omega)⟩, kY.out, hk1⟩
            have hO3' := Lib.hid hO3
            clear hO1 hO3 RY kY OY WY aY
            obtain ⟨W1, hW1⟩ : ∃ W, y.alloc (.cells #[.int .u32 1, .int .u16 k, .int .u32 2, .int .u16 53, .bool false, .slice da dn dc] 32) = W := ⟨_, rfl⟩
            have L1 : Own pkE W1 y.heap.size (.slice (some ⟨y.heap.size, 0, none⟩) 1 1) [⟨hdK k, da, dn, dc⟩] := by rw [← hW1]; exact own_pk1 y k da dn dc
            have j1 : Below y.heap.size y W1 := by rw [← hW1]; exact alloc_bel _ _
            obtain ⟨v2, W2, r1, M2⟩ := (M0.out.ext j1).runv (by omega) L1
            obtain ⟨W3, hW3⟩ : ∃ W, W2.alloc (.cells #[.int .i64 now2] 3) = W := ⟨_, rfl⟩
            have L3 : Own intE W3 W2.heap.size (.slice (some ⟨W2.heap.size, 0, none⟩) 1 1) [now2] := by rw [← hW3]; exact own_i1 W2 now2
            have j3 : Below W2.heap.size W2 W3 := by rw [← hW3]; exact alloc_bel _ _
            obtain ⟨v4, W4, r3, M4⟩ := (M2.ext j3).runu (by have := hK'.out.len; omega) L3
            have KF := Lib.hid (M4.k1 hI2'.out hO2 hK'.out.len hdk hrw.out (by omega) hO3'.out)
            have kF := Lib.hid M4.bel
            have p0 : y.cell? ⟨w5.heap.size, 0, none⟩ = some (.int .u32 1) := (M0.out.blk.cell 0).trans rfl
            have p1 : y.cell? ⟨w5.heap.size, 1, none⟩ = some (.int .u16 k) := (M0.out.blk.cell 1).trans rfl
            have p2 : y.cell? ⟨w5.heap.size, 2, none⟩ = some (.int .u32 2) := (M0.out.blk.cell 2).trans rfl
            have p3 : y.cell? ⟨w5.heap.size, 3, none⟩ = some (.int .u16 53) := (M0.out.blk.cell 3).trans rfl
            have p4 : y.cell? ⟨w5.heap.size, 4, none⟩ = some (.bool false) := (M0.out.blk.cell 4).trans rfl
            have p5 : y.cell? ⟨w5.heap.size, 5, none⟩ = some (.slice da dn dc) := (M0.out.blk.cell 5).trans rfl
            have r1' := Lib.hid r1
            have r3' := Lib.hid r3
            clear L1 j1 r1 M2 L3 j3 r3 M4 M0
            go_wp2_with (first | refine wpList_append_on _ (by rfl) (.tmp 128) (.tmp 130) 35 35 rfl u10 (.slice (some ⟨y.heap.size, 0, none⟩) 1 1) (by rfl) (by rfl) v2 W2 r1'.out ?_ | refine wpList_append_on _ (by rfl) (.tmp 132) (.tmp 134) 22 22 rfl u13 (.slice (some ⟨W2.heap.size, 0, none⟩) 1 1) (by rfl) (by rfl) v4 W4 r3'.out ?_)
            first | exact ⟨⟨k + 1, dbl, now2, by omega, by go_num, rfl, rfl, by omega, Lib.hid ⟨_, _, _, _, KF.out⟩, kF⟩, by simp [intOf]; omega⟩ | exact ⟨⟨k + 1, dbl + 1, now2, by omega, by go_num, by go_num, rfl, by omega, Lib.hid ⟨_, _, _, _, KF.out⟩, kF⟩, by simp [intOf]; omega⟩
      · have hsI : ¬ (k : Int) < yn := by omega
        go_upto_region 15 with (fail)
        obtain ⟨now2, hnow2⟩ : ∃ x : Int, now = x := ⟨_, rfl⟩
        have hw0 : 0 ≤ now2 ∧ now2 ≤ 100 * ((k : Int) + 1) := by omega
        try rw [hnow2]
        clear hnow2
        by_cases hbig : 50 < dn
        · have hbI : (50 : Int) < dn := by omega
          go_wp2_with fail
          go_ret
          exact ⟨rfl, hb.out⟩
        have hbI : ¬ (50 : Int) < dn := by omega
        have hby := Lib.hid (bytes_any wr da dn dc)
        dsimp only [pkV, hdB] at hby
        go_wp2_with fail
        refine hby.out.mono ?_
        rintro e w5 ⟨rfl, hb5⟩
        have k5 := Lib.hid hb5
        clear hby hb5
        obtain ⟨W6, hW6⟩ : ∃ W, w5.alloc (.cells #[.int .u32 0, .int .u16 0, .int .u32 0, .int .u16 0, .bool false, .slice none 0 0] 32) = W := ⟨_, rfl⟩
        have B6 : Hid (Blk W6 w5.heap.size 32 (0, 0) [.int .u32 0, .int .u16 0, .int .u32 0, .int .u16 0, .bool false, .slice none 0 0]) := Lib.hid (by rw [← hW6]; exact Blk.new w5 32 (0, 0) #[.int .u32 0, .int .u16 0, .int .u32 0, .int .u16 0, .bool false, .slice none 0 0])
        have k6 : Hid (Below w5.heap.size w5 W6) := Lib.hid (by rw [← hW6]; exact alloc_bel _ _)
        go_upto_region 18 with (refine store_whole rfl 32 (.tmp 15) (.tmp 103) rfl rfl rfl B6.out (by rfl) (by kernel_rfl) (by first | kernel_rfl | rfl) ?_; intro w7 hBx hgx hzx; have R7 := Lib.hid hBx; have g7 := Lib.hid (fresh_store k6.out hgx); clear hBx hgx hzx)
        try clear hW6
        have k7 := Lib.hid (k5.out.trans (g7.out.mono k5.out.size))
        have hl5 : Hid (wr.heap.size ≤ w5.heap.size) := Lib.hid k5.out.size
        clear k5 g7 B6 k6
        have f1 : w7.frozen? ⟨w5.heap.size, 1, none⟩ = false := by rw [R7.out.frozen]; try simp
        have c1 : w7.cell? ⟨w5.heap.size, 1, none⟩ = some (.int .u16 0) := (R7.out.cell 1).trans rfl
        go_upto_region 19 with (fail)
        obtain ⟨V, hV⟩ : ∃ V, w7.setCell ⟨w5.heap.size, 1, none⟩ (.int .u16 (k : Int)) = V := ⟨_, rfl⟩
        try rw [hV]
        have RV : Hid (Blk V w5.heap.size 32 (0, 0) [.int .u32 1, .int .u16 k, .int .u32 2, .int .u16 53, .bool false, .slice da dn dc]) := Lib.hid (by rw [← hV]; exact R7.out.set 1 _)
        have hgV : w7.grownBy V (some w5.heap.size) := by rw [← hV]; exact grown_set _ _ _ _
        have kV := Lib.hid (k7.out.grown hgV k7.out.size (fun g hg => by have := Option.some.inj hg; have := hl5.out; omega))
        clear hV hgV f1 c1 R7 k7
        have KV := Lib.hid (hK'.out.ext kV.out)
        have hrV := Lib.hid (hrd.ext kV.out)
        obtain ⟨ct, s2, hS, hct, hI2⟩ := keep_step (KV.out.inv.more now2) (by omega) hdk (by have := hrd.len; omega) (by rw [List.getElem?_append_right (by have := KV.out.len; omega), KV.out.len]; simp) hw0.1 (by omega)
        have hI2' := Lib.hid hI2
        have hct' := Lib.hid hct
        clear hI2 hct
        have hs_ := Lib.hid (send_at0 KV.out.net KV.out.inv.ok KV.out.inv.may (hdK k) hrV.out (fun b1 o1 s1 h0 e hb1 => by have h1 := KV.out.net.lo b1 hb1; have h2 := hdlt.out b1 o1 s1 h0 e; omega) hdn now2)
        rw [hS] at hs_
        dsimp only [pkV, hdK] at hs_
        clear hS
        have p0 : V.cell? ⟨w5.heap.size, 0, none⟩ = some (.int .u32 1) := (RV.out.cell 0).trans rfl
        have p1 : V.cell? ⟨w5.heap.size, 1, none⟩ = some (.int .u16 k) := (RV.out.cell 1).trans rfl
        have p2 : V.cell? ⟨w5.heap.size, 2, none⟩ = some (.int .u32 2) := (RV.out.cell 2).trans rfl
        have p3 : V.cell? ⟨w5.heap.size, 3, none⟩ = some (.int .u16 53) := (RV.out.cell 3).trans rfl
        have p4 : V.cell? ⟨w5.heap.size, 4, none⟩ = some (.bool false) := (RV.out.cell 4).trans rfl
        have p5 : V.cell? ⟨w5.heap.size, 5, none⟩ = some (.slice da dn dc) := (RV.out.cell 5).trans rfl
        go_wp2_with fail
        refine hs_.out.mono ?_
        rintro e y ⟨rfl, ⟨S2, hA2, hSS⟩, ht⟩
        have A2 := Lib.hid hA2
        have SS2 := Lib.hid hSS
        have T2 := Lib.hid ht
        have RY := Lib.hid (ht.blk RV.out (fun hb1 => by have := KV.out.net.hi _ hb1; have := hK'.out.net.mw; have := hl5.out; omega))
        have kY := Lib.hid ((hb.out.trans (kV.out.mono hb.out.size)).trans (ht.below (hb.out.trans (kV.out.mono hb.out.size)).size (fun b1 _ hb1 => Nat.le_trans hk1 (KV.out.net.lo b1 hb1))))
        have OY : Hid (SentR y w w1.heap.size u10 D k) := Lib.hid (by obtain ⟨OP, h1, h2, h3⟩ := KV.out.sent; exact ⟨OP, ht.own h1 (fun g hg hs1 => KV.out.ap g (.inl hg) hs1), h2, h3⟩)
        have WY : Hid (Own intE y w1.heap.size u13 YL) := Lib.hid (ht.own KV.out.when (fun g hg hs1 => KV.out.ap g (.inr hg) hs1))
        have aY : Hid (∀ g, u10.ownBlock = some g ∨ u13.ownBlock = some g → ¬ S2 g) := Lib.hid (fun g hg hs1 => by rcases SS2.out g hs1 with h1 | h1; exact KV.out.ap g hg h1; rcases hg with hg | hg; (obtain ⟨OP, h2, _⟩ := KV.out.sent; have := (h2.lt g hg).2; omega); (have := (KV.out.when.lt g hg).2; omega))
        clear hA2 hSS ht hs_ p0 p1 p2 p3 p4 p5 RV kV
        obtain hc | hc | hc : ct = 0 ∨ ct = 1 ∨ ct = 2 := by have := hct'.out; omega
        all_goals
          subst hc
          go_upto_region 24 with (fail)
        all_goals
          obtain ⟨OP, hO1, hO2, hO3⟩ := OY.out
          have M0 : Hid (Mid w y x w1.heap.size _ S2 s2 u10 u13 OP YL w5.heap.size [.int .u32 1, .int .u16 k, .int .u32 2, .int .u16 53, .bool false, .slice da dn dc]) := Lib.hid ⟨A2.out, RY.out, hO1, WY.out, fun g hg => ⟨aY.out g hg, fun e => by rw [e] at hg; have h1 := hl5.out; rcases hg with hg | hg; (have h2 := hK'.out.sent; obtain ⟨OP2, h3, _⟩ := h2; have := (h3.lt _ hg).2; omega); (have := (hK'.out.when.lt _ hg).2; omega)⟩, kY.out, hk1⟩
          have hO3' := Lib.hid hO3
          clear hO1 hO3 RY kY OY WY aY
          obtain ⟨W1, hW1⟩ : ∃ W, y.alloc (.cells #[.int .u32 1, .int .u16 k, .int .u32 2, .int .u16 53, .bool false, .slice da dn dc] 32) = W := ⟨_, rfl⟩
          have L1 : Own pkE W1 y.heap.size (.slice (some ⟨y.heap.size, 0, none⟩) 1 1) [⟨hdK k, da, dn, dc⟩] := by rw [← hW1]; exact own_pk1 y k da dn dc
          have j1 : Below y.heap.size y W1 := by rw [← hW1]; exact alloc_bel _ _
          obtain ⟨v2, W2, r1, M2⟩ := (M0.out.ext j1).runv (by omega) L1
          obtain ⟨W3, hW3⟩ : ∃ W, W2.alloc (.cells #[.int .i64 now2] 3) = W := ⟨_, rfl⟩
          have L3 : Own intE W3 W2.heap.size (.slice (some ⟨W2.heap.size, 0, none⟩) 1 1) [now2] := by rw [← hW3]; exact own_i1 W2 now2
          have j3 : Below W2.heap.size W2 W3 := by rw [← hW3]; exact alloc_bel _ _
          obtain ⟨v4, W4, r3, M4⟩ := (M2.ext j3).runu (by have := hK'.out.len; omega) L3
          have KF := Lib.hid (M4.k1 hI2'.out hO2 hK'.out.len hdk hrw.out (by omega) hO3'.out)
          have kF := Lib.hid M4.bel
          have p0 : y.cell? ⟨w5.heap.size, 0, none⟩ = some (.int .u32 1) := (M0.out.blk.cell 0).trans rfl
          have p1 : y.cell? ⟨w5.heap.size, 1, none⟩ = some (.int .u16 k) := (M0.out.blk.cell 1).trans rfl
          have p2 : y.cell? ⟨w5.heap.size, 2, none⟩ = some (.int .u32 2) := (M0.out.blk.cell 2).trans rfl
          have p3 : y.cell? ⟨w5.heap.size, 3, none⟩ = some (.int .u16 53) := (M0.out.blk.cell 3).trans rfl
          have p4 : y.cell? ⟨w5.heap.size, 4, none⟩ = some (.bool false) := (M0.out.blk.cell 4).trans rfl
          have p5 : y.cell? ⟨w5.heap.size, 5, none⟩ = some (.slice da dn dc) := (M0.out.blk.cell 5).trans rfl
          have r1' := Lib.hid r1
          have r3' := Lib.hid r3
          clear L1 j1 r1 M2 L3 j3 r3 M4 M0
          go_wp2_with (first | refine wpList_append_on _ (by rfl) (.tmp 128) (.tmp 130) 35 35 rfl u10 (.slice (some ⟨y.heap.size, 0, none⟩) 1 1) (by rfl) (by rfl) v2 W2 r1'.out ?_ | refine wpList_append_on _ (by rfl) (.tmp 132) (.tmp 134) 22 22 rfl u13 (.slice (some ⟨W2.heap.size, 0, none⟩) 1 1) (by rfl) (by rfl) v4 W4 r3'.out ?_)
          first | exact ⟨⟨k + 1, dbl, now2, by omega, by go_num, rfl, rfl, by omega, Lib.hid ⟨_, _, _, _, KF.out⟩, kF⟩, by simp [intOf]; omega⟩ | exact ⟨⟨k + 1, dbl + 1, now2, by omega, by go_num, by go_num, rfl, by omega, Lib.hid ⟨_, _, _, _, KF.out⟩, kF⟩, by simp [intOf]; omega⟩
    · have hk' : k = n := by omega
      subst hk'
      obtain ⟨OP, hO1, hO2, hO3⟩ := hK'.out.sent
      have hO4 := hK'.out.when
      have hY := hK'.out.len
      obtain ⟨sa, sc, rfl⟩ := hO1.shape
      obtain ⟨ya2, yc2, rfl⟩ := hO4.shape
      rw [hO2] at hO1 ⊢
      rw [hY] at hO4 ⊢
      have OV := Lib.hid hO1
      have OU := Lib.hid hO4
      have OD := Lib.hid hO3
      have NA := Lib.hid hK'.out.net
      have KI := Lib.hid hK'.out.inv
      have apV : Hid (∀ g, (Value.slice sa k sc).ownBlock = some g ∨ (Value.slice ya2 k yc2).ownBlock = some g → ¬ S g) := Lib.hid (by have h := hK'.out.ap; rw [hO2, hY] at h; exact h)
      clear hO1 hO3 hO4 hK'
      have hmk := make_ints k (by omega)
      obtain ⟨W5, hW5⟩ : ∃ W, wr.alloc (.cells (madeCells #[.int .i64 0] k) 3) = W := ⟨_, rfl⟩
      have C5 : Hid (Blk W5 wr.heap.size 3 (0, 0) (cameC s.A 0 k)) := Lib.hid (by rw [← hW5]; exact came_new _ _ _)
      have j5 : Hid (Below wr.heap.size wr W5) := Lib.hid (by rw [← hW5]; exact alloc_bel _ _)
      go_wp2_with fail
      try rw [hW5]
      have D0 : Hid (Drn w W5 x w1.heap.size m wr.heap.size s.A s.c k 0 0 S s (.slice sa k sc) (.slice ya2 k yc2) OP YL) := Lib.hid ⟨NA.out.ext j5.out, KI.out.kdr, C5.out, OV.out.ext j5.out, OU.out.ext j5.out, fun g hg => ⟨apV.out g hg, fun e => by rcases hg with hg | hg; (have := (OV.out.lt g hg).2; omega); (have := (OU.out.lt g hg).2; omega)⟩, fun hs => by have h1 := NA.out.hi _ hs; have h2 := NA.out.mw; omega, hb.out.trans (j5.out.mono hb.out.size), hk1, Nat.le_trans NA.out.bm NA.out.mw⟩
      have hcb : Hid (w.heap.size ≤ wr.heap.size) := Lib.hid hb.out.size
      clear OV OU NA apV j5 C5 hW5 hmk hb
      obtain ⟨cb, hcb2⟩ : ∃ cb, wr.heap.size = cb := ⟨_, rfl⟩
      rw [hcb2] at D0 hcb ⊢
      clear hcb2
      obtain ⟨A0, hA0⟩ : ∃ A0, s.A = A0 := ⟨_, rfl⟩
      obtain ⟨c0, hc0⟩ : ∃ c0, s.c = c0 := ⟨_, rfl⟩
      rw [hA0, hc0] at D0
      have hA1 : Hid (s.A = A0) := Lib.hid hA0
      have hc1 : Hid (s.c = c0) := Lib.hid hc0
      have hAl : Hid (A0.length ≤ 2 * k ∧ (A0.length : Int) = k + dbl - c0.lost ∧ c0.sent = k ∧ c0.forged = 0 ∧ 0 ≤ c0.lost ∧ c0.lost ≤ k) := Lib.hid (by have h1 := KI.out.len; have h2 := KI.out.lost; have h3 := KI.out.dbl; have h4 := KI.out.sent; have h5 := KI.out.forged; have h6 := KI.out.ok.lost; rw [hA0, hc0] at *; omega)
      have hsrc : Hid (∀ f ∈ A0, FromK D YL k f) := Lib.hid (by rw [← hA0]; exact KI.out.src)
      have htwo : Hid (∀ i : Int, cntP i A0 ≤ 2) := Lib.hid (by rw [← hA0]; exact KI.out.two)
      clear hA0 hc0 KI
      go_loopw [19, 20] (fun tot n2 wr2 => ∃ (t j : Nat), tot = .int .i64 t ∧ n2 = .int .i64 j ∧ j ≤ t ∧ t ≤ 80 ∧ Hid (∃ S2 s2, Drn w wr2 x w1.heap.size m cb A0 c0 k t t S2 s2 (.slice sa k sc) (.slice ya2 k yc2) OP YL)) (fun tot _ _ => 100 - (intOf tot).toNat)
      case atStart => exact ⟨0, 0, rfl, rfl, Nat.le_refl _, Nat.zero_le _, Lib.hid ⟨_, _, D0.out⟩⟩
      case round =>
        obtain ⟨t, j, rfl, rfl, hjt, ht80, hDr⟩ := hrel
        clear D0
        obtain ⟨S2, s2, hDr2⟩ := hDr.out
        have DR := Lib.hid hDr2
        have htl := hDr2.dr.le
        have hAk := hAl.out.1
        clear hDr hDr2
        have hj2 : (j : Int) ≤ 2 * k := by omega
        by_cases ht : t < A0.length
        · obtain ⟨z, mm, s3, hn1, hm0, hm1, hd1, hz1, hk3⟩ := drain_step DR.out.dr (fun f hf => by obtain ⟨i, d, y, _, _, _, _, h5, _⟩ := hsrc.out f hf; omega) (by omega) ht
          have hnx := Lib.hid (next_any DR.out.net.P)
          rw [hn1] at hnx
          have hdu := Lib.hid (drn_due DR.out hd1 hk3)
          have hz1' := Lib.hid hz1
          clear hn1 hd1 hz1 hk3
          go_wp2_with fail
          refine hnx.out.mono ?_
          rintro e w3 ⟨rfl, rfl⟩
          go_wp2_with fail
          refine hdu.out.mono ?_
          rintro e w4 ⟨la, ln, lc, S4, rfl, hln, hT4, hD4⟩
          have T4 := Lib.hid hT4
          have D4 := Lib.hid hD4
          have hmm : ln = mm := by rw [hln, List.length_take, List.length_drop]; omega
          subst hmm
          clear hT4 hD4 hln hdu hnx DR
          go_wp2_with fail
          go_loopw [19, 25] (fun tot ii wr3 => ∃ (q tq : Nat), tot = .int .i64 tq ∧ ii = .int .i64 q ∧ tq = t + q ∧ q ≤ ln ∧ Hid (Drn w wr3 x w1.heap.size m cb A0 c0 k tq (t + ln) S4 s3 (.slice sa k sc) (.slice ya2 k yc2) OP YL) ∧ Hid (Told wr3 (fun g => g = cb) (.slice la ln lc) (((A0.drop t).take ln).map fun f => (f.h, f.d)))) (fun _ ii _ => ln - (intOf ii).toNat)
          case atStart => exact ⟨0, t, rfl, rfl, rfl, Nat.zero_le _, D4, T4⟩
          case round =>
            obtain ⟨q, tq, rfl, rfl, htq, hqn, hD5, hT5⟩ := hrel
            subst htq
            clear D4 T4
            by_cases hql : q < ln
            · have hqI : (q : Int) < ln := by omega
              have hq0 : (0 : Int) ≤ q := by omega
              obtain ⟨tb, tof, qd, rfl, ⟨tc0, tc1, tc2, tc3, tc4, tc5⟩, xx, hxx, hx1, hx2⟩ := hT5.out.rdP.at_ hql
              clear tc0 tc2 tc3 tc4
              obtain ⟨f, hf, rfl⟩ : ∃ f, A0[t + q]? = some f ∧ (f.h, f.d) = xx := by
                rw [List.getElem?_map, List.getElem?_take, if_pos hql, List.getElem?_drop] at hxx
                obtain ⟨f, hf, e⟩ := Option.map_eq_some_iff.1 hxx
                exact ⟨f, hf, e⟩
              have hfz : f.at_ ≤ z := hz1'.out f (by
                refine List.mem_of_getElem? (i := q) ?_
                rw [List.getElem?_take, if_pos hql, List.getElem?_drop]
                exact hf)
              obtain ⟨i0, d, yy, hi0, hd0, hy0, hh0, ⟨hy1, hy2⟩, hln, hbt⟩ := hsrc.out f (List.mem_of_getElem? hf)
              dsimp only at hx1 hx2
              rw [hh0] at hx1
              rw [hx1] at tc1
              replace tc1 : wr.cell? ⟨tb, tof + q * 6 + 1, none⟩ = some (.int .u16 (i0 : Int)) := tc1
              obtain ⟨sb, so, hsa, -, hsc⟩ := rd_pk (own_rd_at hD5.out.ov).1 (by omega)
              have hc5 := (hsc i0 (by omega)).2.2.2.2.2
              obtain ⟨pp, hpp⟩ : ∃ pp, OP[i0]'(by omega) = pp := ⟨_, rfl⟩
              rw [hpp] at hc5
              have hod := OD.out i0 pp d (by rw [List.getElem?_eq_getElem (by omega), hpp]) hd0
              have hrs := Lib.hid (hod.2.1.ext hD5.out.bel)
              have hrt := Lib.hid hx2
              have hlp := hod.2.1.len
              have hl50 := hod.2.2
              have hlq := hx2.len
              obtain ⟨yb, yo, hya, -, hyc0⟩ := (own_rd_at hD5.out.ou).1.addr (by omega)
              have hyc := hyc0 i0 (by omega) 0 (by decide)
              rw [List.getElem?_eq_getElem (by omega)] at hy0
              rw [Option.some.inj hy0] at hyc
              replace hyc : wr.cell? ⟨yb, yo + i0, none⟩ = some (.int .i64 yy) := by simpa [intE] using hyc
              have hcc : wr.cell? ⟨cb, i0, none⟩ = some (.int .i64 ((cntP i0 (A0.take (t + q)) : Nat) : Int)) := (hD5.out.came.cell i0).trans (cameC_at _ _ _ _ hi0)
              have hcf : wr.frozen? ⟨cb, i0, none⟩ = false := by rw [hD5.out.came.frozen]; try simp
              have hct2 : Hid (cntP i0 (A0.take (t + q)) + 1 ≤ 2) := Lib.hid (by have h1 := cntP_succ (i0 : Int) A0 (t + q) f hf; rw [hh0] at h1; have h2 := cntP_take (i0 : Int) A0 (t + q + 1); have h3 := htwo.out (i0 : Int); rw [h1] at h2; simp only [hdK] at h2; simp at h2; omega)
              clear hsc hod hx2 hyc0 hx1 hy0 hxx hpp
              obtain ⟨qh, qa, qn, qc⟩ := qd
              obtain ⟨ph, pa, pn, pc⟩ := pp
              dsimp only at hlp hlq hl50 hrs hrt hc5 tc5
              have hpq : pn = qn := by omega
              subst hpq
              have hbb := Lib.hid (fun U (hU : Below wr.heap.size wr U) => bits_any (hrt.out.ext hU) (hrs.out.ext hU) (by omega))
              obtain ⟨bl, hbl⟩ : ∃ bl, bitsL f.d d = bl := ⟨_, rfl⟩
              rw [hbl] at hbb hbt
              have g1 : ¬ (k : Int) ≤ i0 := by omega
              have g2 : ¬ z < yy := by omega
              have g4 : ¬ (1 : Int) < bl := by omega
              have g4' : ¬ (1 : Int) < (bl : Int) := g4
              clear hbl hln hlp hlq
              go_upto_region 39 with (fail)
              have hPS : Hid (∀ U : World, Below wr.heap.size wr U → U.cell? ⟨tb, tof + q * 6 + 5, none⟩ = some (.slice qa pn qc) ∧ U.cell? ⟨sb, so + i0 * 6 + 5, none⟩ = some (.slice pa pn pc) ∧ U.cell? ⟨yb, yo + i0, none⟩ = some (.int .i64 yy)) := Lib.hid (fun U hU => ⟨cell_later hU tc5, cell_later hU hc5, cell_later hU hyc⟩)
              refine wp_region_noPanic ?_
              refine wp_region_held_drew (S := fun U => U.cell? ⟨tb, tof + q * 6 + 5, none⟩ = some (.slice qa pn qc) ∧ U.cell? ⟨sb, so + i0 * 6 + 5, none⟩ = some (.slice pa pn pc) ∧ U.cell? ⟨yb, yo + i0, none⟩ = some (.int .i64 yy)) (by kernel_rfl) (hPS.out _ (Below.refl _ _).drew) (fun hHeld => ?_)
              have M1 : Hid (Below wr.heap.size wr wr.drew) := Lib.hid (Below.refl _ _).drew
              generalize wr.drew = U0 at *
              refine wpAnyH_take (i := 0) (oi := { dst := some 178, op := Op.move (Operand.tmp 26), type := 3, pos := _, after := #[], guard := none }) (v := ?_) rfl (by kernel_rfl) (by kernel_rfl) (by kernel_rfl) (fun _ _ _ h => h) (Or.inl ⟨by rfl, ?_⟩) (by assumption) ?_
              rotate_left
              · intro w hSw
                go_simp
                first | done | with_reducible rfl
              try simp only [Act.put, List.setIfInBounds_toArray, List.set_cons_zero, List.set_cons_succ]
              refine wpAnyH_take (i := 1) (oi := { dst := some 179, op := Op.move (Operand.tmp 10), type := 35, pos := _, after := #[], guard := none }) (v := ?_) rfl (by kernel_rfl) (by kernel_rfl) (by kernel_rfl) (fun _ _ _ h => h) (Or.inl ⟨by rfl, ?_⟩) (by assumption) ?_
              rotate_left
              · intro w hSw
                go_simp
                first | done | with_reducible rfl
              try simp only [Act.put, List.setIfInBounds_toArray, List.set_cons_zero, List.set_cons_succ]
              refine wpAnyH_take (i := 2) (oi := { dst := some 180, op := Op.call { callee := Callee.builtin Builtin.len, args := #[Operand.tmp 179], argTypes := #[35] }, type := 3, pos := _, after := #[{ on := 1, ground := Ground.data }], guard := none }) (v := ?_) rfl (by kernel_rfl) (by kernel_rfl) (by kernel_rfl) (fun _ _ _ h => h) (Or.inl ⟨by rfl, ?_⟩) (by assumption) ?_
              rotate_left
              · intro w hSw
                go_simp
                first | done | with_reducible rfl
              try simp only [Act.put, List.setIfInBounds_toArray, List.set_cons_zero, List.set_cons_succ]
              refine wpAnyH_take (i := 3) (oi := { dst := some 181, op := Op.binOp BinOp.geq 3 (Operand.tmp 178) (Operand.tmp 180) 3, type := 4, pos := _, after := #[{ on := 0, ground := Ground.data }, { on := 2, ground := Ground.data }], guard := none }) (v := ?_) rfl (by kernel_rfl) (by kernel_rfl) (by kernel_rfl) (fun _ _ _ h => h) (Or.inl ⟨by rfl, ?_⟩) (by assumption) ?_
              rotate_left
              · intro w hSw
                go_simp
                first | done | with_reducible rfl
              try simp only [Act.put, List.setIfInBounds_toArray, List.set_cons_zero, List.set_cons_succ]
              refine wpAnyH_take (i := 4) (oi := { dst := some 182, op := Op.move (Operand.tmp 181), type := 4, pos := _, after := #[{ on := 3, ground := Ground.data }], guard := none }) (v := ?_) rfl (by kernel_rfl) (by kernel_rfl) (by kernel_rfl) (fun _ _ _ h => h) (Or.inl ⟨by rfl, ?_⟩) (by assumption) ?_
              rotate_left
              · intro w hSw
                go_simp
                first | done | with_reducible rfl
              try simp only [Act.put, List.setIfInBounds_toArray, List.set_cons_zero, List.set_cons_succ]
              refine wpAnyH_take (i := 5) (oi := { dst := some 183, op := Op.move (Operand.tmp 21), type := 3, pos := _, after := #[{ on := 4, ground := Ground.guard }], guard := some (4, false) }) (v := ?_) rfl (by kernel_rfl) (by kernel_rfl) (by kernel_rfl) (fun _ _ _ h => h) (Or.inl ⟨by rfl, ?_⟩) (by assumption) ?_
              rotate_left
              · intro w hSw
                go_simp
                first | done | with_reducible rfl
              try simp only [Act.put, List.setIfInBounds_toArray, List.set_cons_zero, List.set_cons_succ]
              refine wpAnyH_take (i := 6) (oi := { dst := some 184, op := Op.move (Operand.tmp 13), type := 22, pos := _, after := #[{ on := 4, ground := Ground.guard }], guard := some (4, false) }) (v := ?_) rfl (by kernel_rfl) (by kernel_rfl) (by kernel_rfl) (fun _ _ _ h => h) (Or.inl ⟨by rfl, ?_⟩) (by assumption) ?_
              rotate_left
              · intro w hSw
                go_simp
                first | done | with_reducible rfl
              try simp only [Act.put, List.setIfInBounds_toArray, List.set_cons_zero, List.set_cons_succ]
              refine wpAnyH_take (i := 7) (oi := { dst := some 185, op := Op.move (Operand.tmp 26), type := 3, pos := _, after := #[{ on := 4, ground := Ground.guard }], guard := some (4, false) }) (v := ?_) rfl (by kernel_rfl) (by kernel_rfl) (by kernel_rfl) (fun _ _ _ h => h) (Or.inl ⟨by rfl, ?_⟩) (by assumption) ?_
              rotate_left
              · intro w hSw
                go_simp
                first | done | with_reducible rfl
              try simp only [Act.put, List.setIfInBounds_toArray, List.set_cons_zero, List.set_cons_succ]
              refine wpAnyH_take (i := 8) (oi := { dst := some 186, op := Op.indexAddr 22 (Operand.tmp 184) (Operand.tmp 185), type := 0, pos := _, after := #[{ on := 6, ground := Ground.data }, { on := 7, ground := Ground.data }, { on := 4, ground := Ground.guard }], guard := some (4, false) }) (v := ?_) rfl (by kernel_rfl) (by kernel_rfl) (by kernel_rfl) (fun _ _ _ h => h) (Or.inl ⟨by rfl, ?_⟩) (by assumption) ?_
              rotate_left
              · intro w hSw
                go_simp
                first | done | with_reducible rfl
              try simp only [Act.put, List.setIfInBounds_toArray, List.set_cons_zero, List.set_cons_succ]
              refine wpAnyH_take (i := 9) (oi := { dst := some 187, op := Op.load 3 (Operand.tmp 186), type := 3, pos := _, after := #[{ on := 8, ground := Ground.data }, { on := 4, ground := Ground.guard }], guard := some (4, false) }) (v := ?_) rfl (by kernel_rfl) (by kernel_rfl) (by kernel_rfl) (fun _ _ _ h => h) (Or.inl ⟨by rfl, ?_⟩) (by assumption) ?_
              rotate_left
              · intro w hSw
                go_simp
                first | done | with_reducible rfl
              try simp only [Act.put, List.setIfInBounds_toArray, List.set_cons_zero, List.set_cons_succ]
              refine wpAnyH_take (i := 10) (oi := { dst := some 188, op := Op.binOp BinOp.lss 3 (Operand.tmp 183) (Operand.tmp 187) 3, type := 4, pos := _, after := #[{ on := 5, ground := Ground.data }, { on := 9, ground := Ground.data }, { on := 4, ground := Ground.guard }], guard := some (4, false) }) (v := ?_) rfl (by kernel_rfl) (by kernel_rfl) (by kernel_rfl) (fun _ _ _ h => h) (Or.inl ⟨by rfl, ?_⟩) (by assumption) ?_
              rotate_left
              · intro w hSw
                go_simp
                first | done | with_reducible rfl
              try simp only [Act.put, List.setIfInBounds_toArray, List.set_cons_zero, List.set_cons_succ]
              refine wpAnyH_take (i := 11) (oi := { dst := some 189, op := Op.pick (Operand.tmp 182) (Operand.const (Value.bool true)) (Operand.tmp 188), type := 4, pos := _, after := #[{ on := 4, ground := Ground.data }, { on := 10, ground := Ground.data }], guard := none }) (v := ?_) rfl (by kernel_rfl) (by kernel_rfl) (by kernel_rfl) (fun _ _ _ h => h) (Or.inl ⟨by rfl, ?_⟩) (by assumption) ?_
              rotate_left
              · intro w hSw
                go_simp
                first | done | with_reducible rfl
              try simp only [Act.put, List.setIfInBounds_toArray, List.set_cons_zero, List.set_cons_succ]
              refine wpAnyH_take (i := 12) (oi := { dst := some 190, op := Op.move (Operand.tmp 189), type := 4, pos := _, after := #[{ on := 11, ground := Ground.data }, { on := 4, ground := Ground.chain }], guard := none }) (v := ?_) rfl (by kernel_rfl) (by kernel_rfl) (by kernel_rfl) (fun _ _ _ h => h) (Or.inl ⟨by rfl, ?_⟩) (by assumption) ?_
              rotate_left
              · intro w hSw
                go_simp
                first | done | with_reducible rfl
              try simp only [Act.put, List.setIfInBounds_toArray, List.set_cons_zero, List.set_cons_succ]
              refine wpAnyH_take (i := 13) (oi := { dst := some 191, op := Op.move (Operand.tmp 23), type := 35, pos := _, after := #[{ on := 12, ground := Ground.guard }], guard := some (12, false) }) (v := ?_) rfl (by kernel_rfl) (by kernel_rfl) (by kernel_rfl) (fun _ _ _ h => h) (Or.inl ⟨by rfl, ?_⟩) (by assumption) ?_
              rotate_left
              · intro w hSw
                go_simp
                first | done | with_reducible rfl
              try simp only [Act.put, List.setIfInBounds_toArray, List.set_cons_zero, List.set_cons_succ]
              refine wpAnyH_take (i := 14) (oi := { dst := some 192, op := Op.move (Operand.tmp 25), type := 3, pos := _, after := #[{ on := 12, ground := Ground.guard }], guard := some (12, false) }) (v := ?_) rfl (by kernel_rfl) (by kernel_rfl) (by kernel_rfl) (fun _ _ _ h => h) (Or.inl ⟨by rfl, ?_⟩) (by assumption) ?_
              rotate_left
              · intro w hSw
                go_simp
                first | done | with_reducible rfl
              try simp only [Act.put, List.setIfInBounds_toArray, List.set_cons_zero, List.set_cons_succ]
              refine wpAnyH_take (i := 15) (oi := { dst := some 193, op := Op.indexAddr 35 (Operand.tmp 191) (Operand.tmp 192), type := 0, pos := _, after := #[{ on := 13, ground := Ground.data }, { on := 14, ground := Ground.data }, { on := 12, ground := Ground.guard }], guard := some (12, false) }) (v := ?_) rfl (by kernel_rfl) (by kernel_rfl) (by kernel_rfl) (fun _ _ _ h => h) (Or.inl ⟨by rfl, ?_⟩) (by assumption) ?_
              rotate_left
              · intro w hSw
                go_simp
                first | done | with_reducible rfl
              try simp only [Act.put, List.setIfInBounds_toArray, List.set_cons_zero, List.set_cons_succ]
              refine wpAnyH_take (i := 16) (oi := { dst := some 194, op := Op.fieldAddr 32 (Operand.tmp 193) 5, type := 0, pos := _, after := #[{ on := 15, ground := Ground.data }, { on := 12, ground := Ground.guard }], guard := some (12, false) }) (v := ?_) rfl (by kernel_rfl) (by kernel_rfl) (by kernel_rfl) (fun _ _ _ h => h) (Or.inl ⟨by rfl, ?_⟩) (by assumption) ?_
              rotate_left
              · intro w hSw
                go_simp
                first | done | with_reducible rfl
              try simp only [Act.put, List.setIfInBounds_toArray, List.set_cons_zero, List.set_cons_succ]
              refine wpAnyH_take (i := 17) (oi := { dst := some 195, op := Op.load 30 (Operand.tmp 194), type := 30, pos := _, after := #[{ on := 16, ground := Ground.data }, { on := 12, ground := Ground.guard }], guard := some (12, false) }) (v := ?_) rfl (by kernel_rfl) (by kernel_rfl) (by kernel_rfl) (fun _ _ _ h => h) (Or.inl ⟨by rfl, ?_⟩) (by assumption) ?_
              rotate_left
              · intro w hSw
                go_simp
                first | done | with_reducible rfl
              try simp only [Act.put, List.setIfInBounds_toArray, List.set_cons_zero, List.set_cons_succ]
              refine wpAnyH_take (i := 18) (oi := { dst := some 196, op := Op.call { callee := Callee.builtin Builtin.len, args := #[Operand.tmp 195], argTypes := #[30] }, type := 3, pos := _, after := #[{ on := 17, ground := Ground.data }, { on := 12, ground := Ground.guard }], guard := some (12, false) }) (v := ?_) rfl (by kernel_rfl) (by kernel_rfl) (by kernel_rfl) (fun _ _ _ h => h) (Or.inl ⟨by rfl, ?_⟩) (by assumption) ?_
              rotate_left
              · intro w hSw
                go_simp
                first | done | with_reducible rfl
              try simp only [Act.put, List.setIfInBounds_toArray, List.set_cons_zero, List.set_cons_succ]
              refine wpAnyH_take (i := 19) (oi := { dst := some 197, op := Op.move (Operand.tmp 10), type := 35, pos := _, after := #[{ on := 12, ground := Ground.guard }], guard := some (12, false) }) (v := ?_) rfl (by kernel_rfl) (by kernel_rfl) (by kernel_rfl) (fun _ _ _ h => h) (Or.inl ⟨by rfl, ?_⟩) (by assumption) ?_
              rotate_left
              · intro w hSw
                go_simp
                first | done | with_reducible rfl
              try simp only [Act.put, List.setIfInBounds_toArray, List.set_cons_zero, List.set_cons_succ]
              refine wpAnyH_take (i := 20) (oi := { dst := some 198, op := Op.move (Operand.tmp 26), type := 3, pos := _, after := #[{ on := 12, ground := Ground.guard }], guard := some (12, false) }) (v := ?_) rfl (by kernel_rfl) (by kernel_rfl) (by kernel_rfl) (fun _ _ _ h => h) (Or.inl ⟨by rfl, ?_⟩) (by assumption) ?_
              rotate_left
              · intro w hSw
                go_simp
                first | done | with_reducible rfl
              try simp only [Act.put, List.setIfInBounds_toArray, List.set_cons_zero, List.set_cons_succ]
              refine wpAnyH_take (i := 21) (oi := { dst := some 199, op := Op.indexAddr 35 (Operand.tmp 197) (Operand.tmp 198), type := 0, pos := _, after := #[{ on := 19, ground := Ground.data }, { on := 20, ground := Ground.data }, { on := 12, ground := Ground.guard }], guard := some (12, false) }) (v := ?_) rfl (by kernel_rfl) (by kernel_rfl) (by kernel_rfl) (fun _ _ _ h => h) (Or.inl ⟨by rfl, ?_⟩) (by assumption) ?_
              rotate_left
              · intro w hSw
                go_simp
                first | done | with_reducible rfl
              try simp only [Act.put, List.setIfInBounds_toArray, List.set_cons_zero, List.set_cons_succ]
              refine wpAnyH_take (i := 22) (oi := { dst := some 200, op := Op.fieldAddr 32 (Operand.tmp 199) 5, type := 0, pos := _, after := #[{ on := 21, ground := Ground.data }, { on := 12, ground := Ground.guard }], guard := some (12, false) }) (v := ?_) rfl (by kernel_rfl) (by kernel_rfl) (by kernel_rfl) (fun _ _ _ h => h) (Or.inl ⟨by rfl, ?_⟩) (by assumption) ?_
              rotate_left
              · intro w hSw
                go_simp
                first | done | with_reducible rfl
              try simp only [Act.put, List.setIfInBounds_toArray, List.set_cons_zero, List.set_cons_succ]
              refine wpAnyH_take (i := 23) (oi := { dst := some 201, op := Op.load 30 (Operand.tmp 200), type := 30, pos := _, after := #[{ on := 22, ground := Ground.data }, { on := 12, ground := Ground.guard }], guard := some (12, false) }) (v := ?_) rfl (by kernel_rfl) (by kernel_rfl) (by kernel_rfl) (fun _ _ _ h => h) (Or.inl ⟨by rfl, ?_⟩) (by assumption) ?_
              rotate_left
              · intro w hSw
                go_simp
                first | done | with_reducible rfl
              try simp only [Act.put, List.setIfInBounds_toArray, List.set_cons_zero, List.set_cons_succ]
              refine wpAnyH_take (i := 24) (oi := { dst := some 202, op := Op.call { callee := Callee.builtin Builtin.len, args := #[Operand.tmp 201], argTypes := #[30] }, type := 3, pos := _, after := #[{ on := 23, ground := Ground.data }, { on := 12, ground := Ground.guard }], guard := some (12, false) }) (v := ?_) rfl (by kernel_rfl) (by kernel_rfl) (by kernel_rfl) (fun _ _ _ h => h) (Or.inl ⟨by rfl, ?_⟩) (by assumption) ?_
              rotate_left
              · intro w hSw
                go_simp
                first | done | with_reducible rfl
              try simp only [Act.put, List.setIfInBounds_toArray, List.set_cons_zero, List.set_cons_succ]
              refine wpAnyH_take (i := 25) (oi := { dst := some 203, op := Op.binOp BinOp.neq 3 (Operand.tmp 196) (Operand.tmp 202) 3, type := 4, pos := _, after := #[{ on := 18, ground := Ground.data }, { on := 24, ground := Ground.data }, { on := 12, ground := Ground.guard }], guard := some (12, false) }) (v := ?_) rfl (by kernel_rfl) (by kernel_rfl) (by kernel_rfl) (fun _ _ _ h => h) (Or.inl ⟨by rfl, ?_⟩) (by assumption) ?_
              rotate_left
              · intro w hSw
                go_simp
                first | done | with_reducible rfl
              try simp only [Act.put, List.setIfInBounds_toArray, List.set_cons_zero, List.set_cons_succ]
              refine wpAnyH_take (i := 26) (oi := { dst := some 204, op := Op.pick (Operand.tmp 190) (Operand.const (Value.bool true)) (Operand.tmp 203), type := 4, pos := _, after := #[{ on := 12, ground := Ground.data }, { on := 25, ground := Ground.data }], guard := none }) (v := ?_) rfl (by kernel_rfl) (by kernel_rfl) (by kernel_rfl) (fun _ _ _ h => h) (Or.inl ⟨by rfl, ?_⟩) (by assumption) ?_
              rotate_left
              · intro w hSw
                go_simp
                first | done | with_reducible rfl
              try simp only [Act.put, List.setIfInBounds_toArray, List.set_cons_zero, List.set_cons_succ]
              refine wpAnyH_take (i := 27) (oi := { dst := some 205, op := Op.move (Operand.tmp 204), type := 4, pos := _, after := #[{ on := 26, ground := Ground.data }, { on := 12, ground := Ground.chain }], guard := none }) (v := ?_) rfl (by kernel_rfl) (by kernel_rfl) (by kernel_rfl) (fun _ _ _ h => h) (Or.inl ⟨by rfl, ?_⟩) (by assumption) ?_
              rotate_left
              · intro w hSw
                go_simp
                first | done | with_reducible rfl
              try simp only [Act.put, List.setIfInBounds_toArray, List.set_cons_zero, List.set_cons_succ]
              refine wpAnyH_take (i := 28) (oi := { dst := some 206, op := Op.move (Operand.tmp 23), type := 35, pos := _, after := #[{ on := 27, ground := Ground.guard }], guard := some (27, false) }) (v := ?_) rfl (by kernel_rfl) (by kernel_rfl) (by kernel_rfl) (fun _ _ _ h => h) (Or.inl ⟨by rfl, ?_⟩) (by assumption) ?_
              rotate_left
              · intro w hSw
                go_simp
                first | done | with_reducible rfl
              try simp only [Act.put, List.setIfInBounds_toArray, List.set_cons_zero, List.set_cons_succ]
              refine wpAnyH_take (i := 29) (oi := { dst := some 207, op := Op.move (Operand.tmp 25), type := 3, pos := _, after := #[{ on := 27, ground := Ground.guard }], guard := some (27, false) }) (v := ?_) rfl (by kernel_rfl) (by kernel_rfl) (by kernel_rfl) (fun _ _ _ h => h) (Or.inl ⟨by rfl, ?_⟩) (by assumption) ?_
              rotate_left
              · intro w hSw
                go_simp
                first | done | with_reducible rfl
              try simp only [Act.put, List.setIfInBounds_toArray, List.set_cons_zero, List.set_cons_succ]
              refine wpAnyH_take (i := 30) (oi := { dst := some 208, op := Op.indexAddr 35 (Operand.tmp 206) (Operand.tmp 207), type := 0, pos := _, after := #[{ on := 28, ground := Ground.data }, { on := 29, ground := Ground.data }, { on := 27, ground := Ground.guard }], guard := some (27, false) }) (v := ?_) rfl (by kernel_rfl) (by kernel_rfl) (by kernel_rfl) (fun _ _ _ h => h) (Or.inl ⟨by rfl, ?_⟩) (by assumption) ?_
              rotate_left
              · intro w hSw
                go_simp
                first | done | with_reducible rfl
              try simp only [Act.put, List.setIfInBounds_toArray, List.set_cons_zero, List.set_cons_succ]
              refine wpAnyH_take (i := 31) (oi := { dst := some 209, op := Op.fieldAddr 32 (Operand.tmp 208) 5, type := 0, pos := _, after := #[{ on := 30, ground := Ground.data }, { on := 27, ground := Ground.guard }], guard := some (27, false) }) (v := ?_) rfl (by kernel_rfl) (by kernel_rfl) (by kernel_rfl) (fun _ _ _ h => h) (Or.inl ⟨by rfl, ?_⟩) (by assumption) ?_
              rotate_left
              · intro w hSw
                go_simp
                first | done | with_reducible rfl
              try simp only [Act.put, List.setIfInBounds_toArray, List.set_cons_zero, List.set_cons_succ]
              refine wpAnyH_take (i := 32) (oi := { dst := some 210, op := Op.load 30 (Operand.tmp 209), type := 30, pos := _, after := #[{ on := 31, ground := Ground.data }, { on := 27, ground := Ground.guard }], guard := some (27, false) }) (v := ?_) rfl (by kernel_rfl) (by kernel_rfl) (by kernel_rfl) (fun _ _ _ h => h) (Or.inl ⟨by rfl, ?_⟩) (by assumption) ?_
              rotate_left
              · intro w hSw
                go_simp
                first | done | with_reducible rfl
              try simp only [Act.put, List.setIfInBounds_toArray, List.set_cons_zero, List.set_cons_succ]
              refine wpAnyH_take (i := 33) (oi := { dst := some 211, op := Op.move (Operand.tmp 10), type := 35, pos := _, after := #[{ on := 27, ground := Ground.guard }], guard := some (27, false) }) (v := ?_) rfl (by kernel_rfl) (by kernel_rfl) (by kernel_rfl) (fun _ _ _ h => h) (Or.inl ⟨by rfl, ?_⟩) (by assumption) ?_
              rotate_left
              · intro w hSw
                go_simp
                first | done | with_reducible rfl
              try simp only [Act.put, List.setIfInBounds_toArray, List.set_cons_zero, List.set_cons_succ]
              refine wpAnyH_take (i := 34) (oi := { dst := some 212, op := Op.move (Operand.tmp 26), type := 3, pos := _, after := #[{ on := 27, ground := Ground.guard }], guard := some (27, false) }) (v := ?_) rfl (by kernel_rfl) (by kernel_rfl) (by kernel_rfl) (fun _ _ _ h => h) (Or.inl ⟨by rfl, ?_⟩) (by assumption) ?_
              rotate_left
              · intro w hSw
                go_simp
                first | done | with_reducible rfl
              try simp only [Act.put, List.setIfInBounds_toArray, List.set_cons_zero, List.set_cons_succ]
              refine wpAnyH_take (i := 35) (oi := { dst := some 213, op := Op.indexAddr 35 (Operand.tmp 211) (Operand.tmp 212), type := 0, pos := _, after := #[{ on := 33, ground := Ground.data }, { on := 34, ground := Ground.data }, { on := 27, ground := Ground.guard }], guard := some (27, false) }) (v := ?_) rfl (by kernel_rfl) (by kernel_rfl) (by kernel_rfl) (fun _ _ _ h => h) (Or.inl ⟨by rfl, ?_⟩) (by assumption) ?_
              rotate_left
              · intro w hSw
                go_simp
                first | done | with_reducible rfl
              try simp only [Act.put, List.setIfInBounds_toArray, List.set_cons_zero, List.set_cons_succ]
              refine wpAnyH_take (i := 36) (oi := { dst := some 214, op := Op.fieldAddr 32 (Operand.tmp 213) 5, type := 0, pos := _, after := #[{ on := 35, ground := Ground.data }, { on := 27, ground := Ground.guard }], guard := some (27, false) }) (v := ?_) rfl (by kernel_rfl) (by kernel_rfl) (by kernel_rfl) (fun _ _ _ h => h) (Or.inl ⟨by rfl, ?_⟩) (by assumption) ?_
              rotate_left
              · intro w hSw
                go_simp
                first | done | with_reducible rfl
              try simp only [Act.put, List.setIfInBounds_toArray, List.set_cons_zero, List.set_cons_succ]
              refine wpAnyH_take (i := 37) (oi := { dst := some 215, op := Op.load 30 (Operand.tmp 214), type := 30, pos := _, after := #[{ on := 36, ground := Ground.data }, { on := 27, ground := Ground.guard }], guard := some (27, false) }) (v := ?_) rfl (by kernel_rfl) (by kernel_rfl) (by kernel_rfl) (fun _ _ _ h => h) (Or.inl ⟨by rfl, ?_⟩) (by assumption) ?_
              rotate_left
              · intro w hSw
                go_simp
                first | done | with_reducible rfl
              try simp only [Act.put, List.setIfInBounds_toArray, List.set_cons_zero, List.set_cons_succ]
              refine wpAnyH_ready (rs := [38]) (by kernel_rfl) (by simp) ?_
              refine AllReadyH.cons (o := { dst := some 216, op := Op.call { callee := Callee.value (Operand.func 16), args := #[Operand.tmp 210, Operand.tmp 215], argTypes := #[30, 30] }, type := 3, pos := _, after := #[{ on := 32, ground := Ground.data }, { on := 37, ground := Ground.data }, { on := 27, ground := Ground.chain }, { on := 27, ground := Ground.guard }], guard := some (27, false) }) rfl (fun K hK => ?_) ?_
              · refine step_call2 (by rfl) (.tmp 210) (.tmp 215) 30 30 (by rfl) (by rfl) (by rfl) enter16 ?_
                refine (hbb.out _ M1.out).mono ?_
                rintro e U1 ⟨rfl, hb6⟩
                have M1_ := Lib.hid (M1.out.trans (hb6.mono M1.out.size))
                clear hb6
                refine ⟨_, rfl, ?_⟩
                refine hK.out _ _ (hPS.out _ M1_.out) (fun hHeld => ?_)
                clear hK K
                try simp only [Act.put, List.setIfInBounds_toArray, List.set_cons_zero, List.set_cons_succ]
                refine wpAnyH_take (i := 39) (oi := { dst := some 217, op := Op.binOp BinOp.gtr 3 (Operand.tmp 216) (Operand.const (Value.int IntKind.i64 1)) 3, type := 4, pos := _, after := #[{ on := 38, ground := Ground.data }, { on := 27, ground := Ground.guard }], guard := some (27, false) }) (v := ?_) rfl (by kernel_rfl) (by kernel_rfl) (by kernel_rfl) (fun _ _ _ h => h) (Or.inl ⟨by rfl, ?_⟩) (by assumption) ?_
                rotate_left
                · intro w hSw
                  go_simp
                  first | done | with_reducible rfl
                try simp only [Act.put, List.setIfInBounds_toArray, List.set_cons_zero, List.set_cons_succ]
                refine wpAnyH_take (i := 40) (oi := { dst := some 218, op := Op.pick (Operand.tmp 205) (Operand.const (Value.bool true)) (Operand.tmp 217), type := 4, pos := _, after := #[{ on := 27, ground := Ground.data }, { on := 39, ground := Ground.data }], guard := none }) (v := ?_) rfl (by kernel_rfl) (by kernel_rfl) (by kernel_rfl) (fun _ _ _ h => h) (Or.inl ⟨by rfl, ?_⟩) (by assumption) ?_
                rotate_left
                · intro w hSw
                  go_simp
                  first | done | with_reducible rfl
                try simp only [Act.put, List.setIfInBounds_toArray, List.set_cons_zero, List.set_cons_succ]
                refine wpAnyH_done (by kernel_rfl) ?_ _
                refine NoPanic.normal ?_
                clear hHeld
                have DU := Lib.hid (hD5.out.ext M1_.out)
                have TU := Lib.hid (hT5.out.ext M1_.out)
                have hcc2 : U1.cell? ⟨cb, i0, none⟩ = some (.int .i64 ((cntP i0 (A0.take (t + q)) : Nat) : Int)) := cell_later M1_.out hcc
                have hcf2 : U1.frozen? ⟨cb, i0, none⟩ = false := by rw [DU.out.came.frozen]; try simp
                clear hcc hcf hD5 hT5 tc1 tc5 hc5 hyc g4 g4' g1 g2 hrs hrt hbb hPS
                obtain ⟨cn, hcn⟩ : ∃ cn, cntP i0 (A0.take (t + q)) = cn := ⟨_, rfl⟩
                rw [hcn] at hcc2 hct2
                have hcn2 := hct2.out
                obtain ⟨D9, T9, c9⟩ := DU.out.inc hf (by rw [hh0]; rfl) ((cn : Int) + 1) (by rw [hcn]; omega) hi0
                have hcn' := Lib.hid hcn
                clear hcn hct2
                obtain ⟨V, hV⟩ : ∃ V, U1.setCell ⟨cb, i0, none⟩ (.int .i64 ((cn : Int) + 1)) = V := ⟨_, rfl⟩
                rw [hV] at D9 T9 c9
                have D9' := Lib.hid D9
                have T9' := Lib.hid (TU.out.step T9 (fun g hg => hg) (fun g hg => .inl hg))
                clear D9 T9 DU TU
                go_wp2_with fail
                exact ⟨⟨q + 1, t + q + 1, by go_num, by go_num, by omega, by omega, D9', T9'⟩, by simp [intOf]; omega⟩
              exact AllReadyH.nil
            · have hqe : q = ln := by omega
              subst hqe
              have hqI : ¬ (q : Int) < q := by omega
              go_wp2_with fail
              exact ⟨⟨t + q, j + 1, by go_num, by go_num, by omega, by omega, Lib.hid ⟨_, _, hD5.out⟩⟩, by simp [intOf]; omega⟩
        · have htA : t = A0.length := by omega
          have hnx := Lib.hid (next_any DR.out.net.P)
          have hnil : nextS s2 = (0, false) := by unfold nextS; rw [DR.out.dr.A, htA, List.drop_length]
          rw [hnil] at hnx
          have hct := Lib.hid (counts_any DR.out.net.P)
          have e1 : s2.c.sent = k := by rw [DR.out.dr.sent]; exact hAl.out.2.2.1
          obtain ⟨lo, hlo⟩ : ∃ lo, s2.c.lost = lo := ⟨_, rfl⟩
          have e3 : s2.c.forged = 0 := by rw [DR.out.dr.forged]; exact hAl.out.2.2.2.1
          have e4 : s2.c.taken = t := DR.out.dr.taken
          have e5 : (t : Int) = k + dbl - lo ∧ 0 ≤ lo ∧ lo ≤ k := by have h1 := hAl.out; have h2 := DR.out.dr.lost; omega
          rw [e1, hlo, e3, e4] at hct
          obtain ⟨e5, e6, e7⟩ := e5
          clear e1 hlo e3 e4 hnil
          have e8 : ((A0.length : Int) == (k : Int) + dbl - lo) = true := by rw [beq_iff_eq]; omega
          go_wp2_with fail
          refine hnx.out.mono ?_
          rintro e w3 ⟨rfl, rfl⟩
          go_wp2_with fail
          refine hct.out.mono ?_
          rintro e w4 ⟨rfl, nq, rfl⟩
          have kE := Lib.hid (below_drewN DR.out.bel nq)
          go_wp2_with fail
          go_ret
          first | exact ⟨rfl, kE.out⟩ | exact ⟨by rw [e8], kE.out⟩
section
open Go.ChangeShapes Go.WideShapes
variable {H : Type} {enc : TypeId × Value → H}
set_option maxRecDepth 100000 in
theorem netKeeps_law {W : World} {r : Reach} {b0 : Nat} {ts : List TypeId} {ds : List (DataW H)} (v0 : Value) (d0 : DataW H) (p0 : List MemPlace) (h0 : DataW.Trod enc Try.prog W 0 (fun _ => true) true 40 v0 d0 p0) (hv0 : Value.okWide Try.prog W r b0 40 v0)
    (_ : (DataW.weightsEach Try.prog ts ds).all (· ≤ reachBytes) = true) (z0 : Sz Try.prog 40 d0) (v1 : Value) (d1 : DataW H) (p1 : List MemPlace) (h1 : DataW.Trod enc Try.prog W 0 (fun _ => true) true 41 v1 d1 p1) (hv1 : Value.okWide Try.prog W r b0 41 v1) (_ : (DataW.weightsEach Try.prog ts ds).all (· ≤ reachBytes) = true) (z1 : Sz Try.prog 41 d1) (v2 : Value) (d2 : DataW H) (p2 : List MemPlace) (h2 : DataW.Trod enc Try.prog W 0 (fun _ => true) true 22 v2 d2 p2) (hv2 : Value.okWide Try.prog W r b0 22 v2) (_ : (DataW.weightsEach Try.prog ts ds).all (· ≤ reachBytes) = true) (z2 : Sz Try.prog 22 d2) (_ : World) : Calls Try.prog 4 #[v0, v1, v2] W fun e w' => e = .returned (.bool true) ∧ Below W.heap.size W w' := by
  obtain ⟨a0, n0, c0, rfl⟩ := okWide_slice (by kernel_rfl : Try.prog.underlying 40 = some (.slice 51)) hv0
  obtain ⟨a1, n1, c1, rfl⟩ := okWide_slice (by kernel_rfl : Try.prog.underlying 41 = some (.slice 30)) hv1
  obtain ⟨a2, n2, c2, rfl⟩ := okWide_slice (by kernel_rfl : Try.prog.underlying 22 = some (.slice 3)) hv2
  obtain ⟨f0, hf0⟩ := h0
  obtain ⟨f1, hf1⟩ := h1
  obtain ⟨f2, hf2⟩ := h2
  obtain ⟨a, n, c, L, e, h, _⟩ := in_fates (v := .slice a0 n0 c0) (y := (d0, p0)) (by simpa only [Value.cells] using hf0) z0
  obtain ⟨a', n', c', L', e', h', _⟩ := in_rows (v := .slice a1 n1 c1) (y := (d1, p1)) (by simpa only [Value.cells] using hf1) z1
  obtain ⟨a'', n'', c'', L'', e'', h'', _⟩ := in_ints (v := .slice a2 n2 c2) (y := (d2, p2)) (by simpa only [Value.cells] using hf2) z2
  rw [e, e', e'']
  exact keeps_any h h' h''
end
end Go.Proofs.Ythdnbipfdahnlaa
