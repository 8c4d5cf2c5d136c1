/- Feed 24. -/
import Derived.Test.YtmimbfikjnfhdaaStC
namespace Go.Proofs.Ytmimbfikjnfhdaa
open Go.RowKit
/-- s[lo:hi:mx], and it lies in the same block -/
theorem cut_lhm {α : Type} {P : Program} {E : Enc α} {w : World} {a : Option Addr} {n c : Nat} {l : List α} (h : Rd E w a n c l) (t : TypeId) (ht : P.underlying t = some (.slice E.e)) (hs : (P.info? E.e).map (·.size) = some E.k)
    (kl kh km : IntKind) (lo hi mx : Int) (lo' hi' mx' : Nat) (e1 : lo = lo') (e2 : hi = hi') (e3 : mx = mx') (h1 : lo' ≤ hi') (h2 : hi' ≤ n) (h3 : hi' ≤ mx') (h4 : mx' ≤ c) :
    ∃ a', (∀ u, (Instr.slice t (.slice a n c) (some (.int kl lo)) (some (.int kh hi)) (some (.int km mx))).run P u = .ok (.slice a' (hi' - lo') (mx' - lo')) u) ∧ Rd E w a' (hi' - lo') (mx' - lo') ((l.take hi').drop lo') := by
  subst e1 e2 e3
  refine ⟨_, fun u => ?_, h.cut lo' hi' mx' h1 h2 h3 h4⟩
  have ee := elem_of ht
  rw [run_slice_lhm u t a n c (by rw [ee]; exact ht) kl kh km lo' hi' mx' (by omega) (by omega) (by omega) (by omega), ee, run_sizeOf_info hs]
  simp [Result.andThen, sliced]
/-- s[lo:], and it lies in the same block -/
theorem cut_lA {α : Type} {P : Program} {E : Enc α} {w : World} {a : Option Addr} {n c : Nat} {l : List α} (h : Rd E w a n c l) (t : TypeId) (ht : P.underlying t = some (.slice E.e)) (hs : (P.info? E.e).map (·.size) = some E.k)
    (kl : IntKind) (lo : Int) (lo' : Nat) (e1 : lo = lo') (h1 : lo' ≤ n) :
    ∃ a', (∀ u, (Instr.slice t (.slice a n c) (some (.int kl lo)) none none).run P u = .ok (.slice a' (n - lo') (c - lo')) u) ∧ Rd E w a' (n - lo') (c - lo') (l.drop lo') ∧ ∀ b o s, a' = some ⟨b, o, s⟩ → ∃ o' s', a = some ⟨b, o', s'⟩ := by
  subst e1
  have hc := h.cap
  have hl := h.len
  have hcut := h.cut lo' n c h1 (Nat.le_refl _) hc (Nat.le_refl _)
  rw [List.take_of_length_le (by omega)] at hcut
  refine ⟨_, fun u => ?_, hcut, ?_⟩
  · have ee := elem_of ht
    rw [run_slice_l u t a n c (by rw [ee]; exact ht) kl lo' (by omega) (by omega), ee, run_sizeOf_info hs]
    simp [Result.andThen, sliced]
  · intro b o s e
    split at e
    · exact ⟨o, s, e⟩
    · cases a with
      | none => simp at e
      | some ad =>
        simp only [Option.map_some, Option.some.injEq] at e
        obtain ⟨b', o', s'⟩ := ad
        unfold Addr.add at e
        split at e <;> simp at e <;> obtain ⟨rfl, _⟩ := e <;> exact ⟨_, _, rfl⟩
def lenOf : Value → Nat
  | .slice _ n _ => n
  | _ => 0
theorem grown_set1 (w : World) (g j : Nat) (v : Value) : w.grownBy (w.setCell ⟨g, j, none⟩ v) (some g) := ⟨rfl, rfl, rfl, by simp, fun k _ hk => Below.heap_setCell _ _ _ _ (fun e => hk (by rw [e]))⟩
theorem grown_tr {u v w : World} {r : Option Nat} (h : u.grownBy v r) (k : v.grownBy w r) : u.grownBy w r :=
  ⟨k.os.trans h.os, k.tape.trans h.tape, k.output.trans h.output, Nat.le_trans h.size k.size, fun i hi hn => (k.block i (Nat.lt_of_lt_of_le hi h.size) hn).trans (h.block i hi hn)⟩
theorem grown_bel {u v : World} {r : Option Nat} (h : Below u.heap.size u v) : u.grownBy v r := ⟨h.os, h.tape, h.output, h.size, fun i hi _ => h.block i hi⟩
theorem feed_close {wr w4 : World} {g B n0 c4 c0 : Nat} {a4 a0 : Option Addr} {A : List UInt8} {O : List (List UInt8)} {out : Value} (hBk : Blk wr g 63 (0, 0) [.slice a0 n0 c0, .bool false, .bool true]) (hg : g < B) (hB : B ≤ wr.heap.size)
    (hO4 : Own byteE w4 wr.heap.size (.slice a4 A.length c4) A) (k4 : Below wr.heap.size wr w4) (hOL : OwnL wr B out O) :
    StRL (w4.setCell ⟨g, 0, none⟩ (.slice a4 A.length c4)) g A false wr.heap.size ∧ OwnL (w4.setCell ⟨g, 0, none⟩ (.slice a4 A.length c4)) B out O ∧ wr.grownBy (w4.setCell ⟨g, 0, none⟩ (.slice a4 A.length c4)) (some g) := by
  have hs := k4.size
  have hb4 := hBk.below k4 hBk.lt
  have had := own_addr hO4
  obtain ⟨a', c', e, r⟩ := hO4.rd
  cases e
  refine ⟨⟨a4, c4, ?_, ?_, fun b o s e => ?_⟩, ?_, grown_tr (grown_bel k4) (grown_set1 _ _ _ _)⟩
  · have := hb4.set 0 (.slice a4 A.length c4); exact this
  · exact r.keep fun b o s e _ => Below.heap_setCell _ _ _ _ (by have := (had b o s e).1; show b ≠ g; omega)
  · have := (had b o s e).1; exact ⟨by omega, this⟩
  · exact (hOL.ext k4).keep (fun b hb _ => Below.heap_setCell _ _ _ _ (by show b ≠ g; omega)) (by simp)
theorem feed_broke {wr : World} {g n0 c0 : Nat} {a0 : Option Addr} (hBk : Blk wr g 63 (0, 0) [.slice a0 n0 c0, .bool false, .bool true]) :
    StR ((wr.setCell ⟨g, 1, none⟩ (.bool true)).setCell ⟨g, 0, none⟩ (.slice none 0 0)) g [] true ∧ wr.grownBy ((wr.setCell ⟨g, 1, none⟩ (.bool true)).setCell ⟨g, 0, none⟩ (.slice none 0 0)) (some g) := by
  refine ⟨⟨none, 0, ?_, Rd.nil _ _, fun b o s e => by cases e⟩, grown_tr (grown_set1 _ _ _ _) (grown_set1 _ _ _ _)⟩
  have := (hBk.set 1 (.bool true)).set 0 (.slice none 0 0); exact this
set_option maxHeartbeats 16000000 in
set_option maxRecDepth 100000 in
theorem feed_any {w : World} {g : Nat} {buf b : List UInt8} {a : Option Addr} {n c : Nat} (hS : StR w g buf false) (h : Rd byteE w a n c b) (hlen : buf.length + b.length ≤ 57000) :
    Calls Try.prog 24 #[.pointer (some ⟨g, 0, none⟩), .slice a n c] w fun e w' =>
      (((frames (buf ++ b)).2.2 = true ∧ e = .returned (.tuple #[.slice none 0 0, .int .i64 340]) ∧ StR w' g [] true) ∨
       ((frames (buf ++ b)).2.2 = false ∧ (∃ v, e = .returned (.tuple #[v, .int .i64 0]) ∧ OwnL w' w.heap.size v (frames (buf ++ b)).1) ∧ StRL w' g (frames (buf ++ b)).2.1 false w.heap.size)) ∧ w.grownBy w' (some g) := by
  have hl := h.len
  subst hl
  have hg := hS.lt
  obtain ⟨i0, hi, hz0, hz1, hz2⟩ := info_parts Try.info41
  obtain ⟨a0, c0, hB, hR, hne⟩ := hS
  have k0 : w.cell? ⟨g, 0, none⟩ = some (.slice a0 buf.length c0) := by rw [hB.cell]; rfl
  have k1 : w.cell? ⟨g, 1, none⟩ = some (.bool false) := by rw [hB.cell]; rfl
  have k2 : w.cell? ⟨g, 2, none⟩ = some (.bool true) := by rw [hB.cell]; rfl
  have hB' := Lib.hid hB
  clear hB
  go_enter Try.func24, Try.ntmps24
  go_wp2_with fail
  have hG := Blk.new w 41 (0, 0) #[.slice a0 buf.length c0, .slice a b.length c]
  have ha : Below w.heap.size w (w.alloc (.cells #[.slice a0 buf.length c0, .slice a b.length c] 41)) := (Below.refl _ _).alloc (Nat.le_refl _) _
  have hs1 : (w.alloc (.cells #[.slice a0 buf.length c0, .slice a b.length c] 41)).heap.size = w.heap.size + 1 := by simp
  generalize w.alloc (.cells #[.slice a0 buf.length c0, .slice a b.length c] 41) = w1 at *
  have hfl : [buf, b].flatten = buf ++ b := by simp
  have hJ := concat_any (w := w1) (gl := w.heap.size) [.slice a0 buf.length c0, .slice a b.length c] [buf, b] hG rfl
    (fun j X hX => match j, hX with
      | 0, hX => by cases hX; exact ⟨_, _, _, rfl, hR.ext ha⟩
      | 1, hX => by cases hX; exact ⟨_, _, _, rfl, h.ext ha⟩
      | j + 2, hX => by simp at hX)
    (by rw [hfl, List.length_append]; omega) (by simp)
  rw [hfl] at hJ
  have hall : (buf ++ b).length ≤ 57000 := by rw [List.length_append]; exact hlen
  generalize hAll : buf ++ b = all at *
  clear hfl hG
  refine hJ.mono ?_
  rintro e w2 ⟨⟨v2, rfl, hO2⟩, hb2⟩
  obtain ⟨aA, cA, e2, hrA⟩ := hO2.rd
  subst e2
  have hadr := own_addr hO2
  have hb02 : Below w.heap.size w w2 := ha.trans (hb2.mono (by omega))
  have hB2 : Hid (Blk w2 g 63 (0, 0) [.slice a0 buf.length c0, .bool false, .bool true]) := Lib.hid (hB'.out.below hb02 hg)
  have hrA' := Lib.hid hrA
  clear hrA hO2 hJ
  go_wp2_with fail
  go_loopw [6, 7] (fun al out wr => ∃ (A : List UInt8) (O : List (List UInt8)) (aA : Option Addr) (cA : Nat), al = .slice aA A.length cA ∧ Hid (Rd byteE wr aA A.length cA A) ∧ Hid (∀ b o s, aA = some ⟨b, o, s⟩ → w1.heap.size ≤ b ∧ b < w2.heap.size) ∧
      Hid (OwnL wr w2.heap.size out O) ∧ Hid (Blk wr g 63 (0, 0) [.slice a0 buf.length c0, .bool false, .bool true]) ∧ Hid (w.grownBy wr (some g)) ∧ Hid (w2.heap.size ≤ wr.heap.size) ∧ Hid (frames all = (O ++ (frames A).1, (frames A).2)) ∧ 14 * O.length + A.length ≤ all.length)
    (fun al _ _ => lenOf al)
  case atStart => exact ⟨all, [], aA, cA, rfl, hrA', Lib.hid hadr, Lib.hid (OwnL.nil _ _), hB2, Lib.hid ⟨hb02.os, hb02.tape, hb02.output, hb02.size, fun k hk _ => hb02.block k hk⟩, Lib.hid (Nat.le_refl _), Lib.hid (by simp), by simp⟩
  case round =>
    clear hrA' hadr hB2
    obtain ⟨A, O, aA, cA, rfl, hA, had, hOL, hBk, hgr, hsz, hfr, hcnt⟩ := hrel
    have hA57 : A.length ≤ 57000 := by omega
    by_cases h2 : 2 ≤ A.length
    · have hN : numP A 0 2 = (numL (A.take 2), true) := by unfold numP; rw [if_pos (by omega)]; simp
      have hlt : numL (A.take 2) < 65536 := by have := numL_lt (A.take 2); rw [List.length_take, Nat.min_eq_left h2] at this; exact this
      by_cases h12 : numL (A.take 2) < 12
      · have hf := frames_bad h2 h12
        have h12I : (numL (A.take 2) : Int) < 12 := by omega
        have q1 : wr.cell? ⟨g, 1, none⟩ = some (.bool false) := by rw [hBk.out.cell]; rfl
        have q2 : wr.frozen? ⟨g, 1, none⟩ = false := by rw [hBk.out.frozen]; simp
        have q3 : wr.cell? ⟨g, 0, none⟩ = some (.slice a0 buf.length c0) := by rw [hBk.out.cell]; rfl
        have q4 : wr.frozen? ⟨g, 0, none⟩ = false := by rw [hBk.out.frozen]; simp
        have q5 := Lib.hid (feed_broke hBk.out)
        generalize numL (A.take 2) = N at *
        go_wp2_with fail
        refine (u16_any hA.out 0 (by omega) (by omega)).mono ?_
        rw [hN]
        dsimp only
        rintro e w3 ⟨rfl, rfl⟩
        go_wp2_with fail
        ((try simp only [Exit.inBlock, Exit.then]); refine bodyPost_ret (results_tmp2 rfl _ _ _) rfl ?_)
        have hfr' := hfr.out
        rw [hf] at hfr'
        rw [hAll, hfr']
        exact ⟨.inl ⟨rfl, rfl, q5.out.1⟩, grown_tr hgr.out q5.out.2⟩
      · by_cases hw : A.length < 2 + numL (A.take 2)
        · have hf := frames_wait h2 (by omega) hw
          have hwI : (A.length : Int) < 2 + (numL (A.take 2) : Int) := by omega
          have h12I : ¬ ((numL (A.take 2) : Int) < 12) := by omega
          have q1 : wr.cell? ⟨g, 1, none⟩ = some (.bool false) := by rw [hBk.out.cell]; rfl
          generalize numL (A.take 2) = N at *
          go_wp2_with fail
          refine (u16_any hA.out 0 (by omega) (by omega)).mono ?_
          rw [hN]
          dsimp only
          rintro e w3 ⟨rfl, rfl⟩
          go_wp2_with fail
          refine (clone_any hA.out (by omega)).mono ?_
          rintro e w4 ⟨⟨v4, rfl, hO4⟩, k4⟩
          obtain ⟨a4, c4, rfl⟩ := hO4.shape
          have q5 := Lib.hid (feed_close hBk.out (by have := hb02.size; omega) hsz.out hO4 k4 hOL.out)
          have hb4 := hBk.out.below k4 hBk.out.lt
          have q6 : w4.frozen? ⟨g, 0, none⟩ = false := by rw [hb4.frozen]; simp
          have q7 : w4.cell? ⟨g, 0, none⟩ = some (.slice a0 buf.length c0) := by rw [hb4.cell]; rfl
          clear hO4 hb4
          obtain ⟨a7, c7, e7⟩ := hOL.out.shape
          subst e7
          go_wp2_with fail
          ((try simp only [Exit.inBlock, Exit.then]); refine bodyPost_ret (results_tmp2 rfl _ _ _) rfl ?_)
          have hfr' := hfr.out
          rw [hf, List.append_nil] at hfr'
          rw [hAll, hfr']
          exact ⟨.inr ⟨rfl, ⟨_, rfl, q5.out.2.1.mono (hb02.size)⟩, q5.out.1.mono hgr.out.size⟩, grown_tr hgr.out q5.out.2.2⟩
        · have hf := frames_one h2 (by omega) (by omega)
          have hwI : 2 + (numL (A.take 2) : Int) ≤ (A.length : Int) := by omega
          have h12I : (12 : Int) ≤ (numL (A.take 2) : Int) := by omega
          have q1 : wr.cell? ⟨g, 1, none⟩ = some (.bool false) := by rw [hBk.out.cell]; rfl
          generalize numL (A.take 2) = N at *
          have hcap := hA.out.cap
          obtain ⟨ax, hcx, hrx⟩ := cut_lhm (P := Try.prog) hA.out 41 Try.underlying41 (by kernel_rfl) .i64 .i64 .i64 2 (2 + (N : Int)) (2 + (N : Int)) 2 (2 + N) (2 + N) rfl (by omega) (by omega) (by omega) (by omega) (by omega) (by omega)
          obtain ⟨ad, hcd, hrd, hdd⟩ := cut_lA (P := Try.prog) hA.out 41 Try.underlying41 (by kernel_rfl) .i64 (2 + (N : Int)) (2 + N) (by omega) (by omega)
          rw [Nat.add_sub_cancel_left] at hcx hrx
          rw [List.drop_take, Nat.add_sub_cancel_left] at hrx
          have hX : Hid (((A.drop 2).take N).length = N) := Lib.hid (by simp; omega)
          have hrx' := Lib.hid hrx
          have hrd' := Lib.hid hrd
          have hdd' := Lib.hid hdd
          have hf' := Lib.hid hf
          clear hrx hrd hdd hf hcap hlt
          obtain ⟨a7, c7, e7⟩ := hOL.out.shape
          subst e7
          have hON : (O.length : Int) + 1 ≤ 4096 := by omega
          go_wp2_with fail
          refine (u16_any hA.out 0 (by omega) (by omega)).mono ?_
          rw [hN]
          dsimp only
          rintro e w3 ⟨rfl, rfl⟩
          go_wp2_with fail
          refine (clone_any hrx'.out (by omega)).mono ?_
          rintro e w4 ⟨⟨v4, rfl, hO4⟩, k4⟩
          obtain ⟨a4, c4, e4⟩ := hO4.shape
          rw [hX.out] at e4
          subst e4
          have hO4' := Lib.hid hO4
          clear hO4
          obtain ⟨ps, ho7, hps, hel⟩ := hOL.out
          have hC := hsz.out
          have s4 := k4.size
          have k5 : Below w4.heap.size w4 (w4.alloc (.cells #[.slice a4 N c4] 41)) := (Below.refl _ _).alloc (Nat.le_refl _) _
          have k45 : Below wr.heap.size wr (w4.alloc (.cells #[.slice a4 N c4] 41)) := k4.trans (k5.mono s4)
          have ho5 := Lib.hid (ho7.ext k45)
          have hsrc := Lib.hid ((rd_blk (E := slE) (X := [(a4, N, c4)]) (Blk.new w4 41 (0, 0) #[.slice a4 N c4]) 1 rfl (by decide)).src (P := Try.prog) (tx := 40) Try.underlying40)
          have hbk5 := Lib.hid (hBk.out.below k45 hBk.out.lt)
          have hpsl : Hid (ps.length + 1 ≤ 4096) := Lib.hid (by omega)
          have h3 : Hid (∀ (j : Nat) (p : Option Addr × Nat × Nat) (X : List UInt8), ps[j]? = some p → O[j]? = some X → Rd byteE (w4.alloc (.cells #[.slice a4 N c4] 41)) p.1 p.2.1 p.2.2 X ∧ ∀ b o s, p.1 = some ⟨b, o, s⟩ → w2.heap.size ≤ b ∧ b < (w4.alloc (.cells #[.slice a4 N c4] 41)).heap.size ∧ (Value.slice a7 O.length c7).ownBlock ≠ some b) :=
            Lib.hid fun j p X hp hX => ⟨(hel j p X hp hX).1.ext k45, fun b o s e => ⟨((hel j p X hp hX).2 b o s e).1, Nat.lt_of_lt_of_le ((hel j p X hp hX).2 b o s e).2.1 k45.size, ((hel j p X hp hX).2 b o s e).2.2⟩⟩
          have q3 : Hid (∀ (j : Nat) (p : Option Addr × Nat × Nat) (X : List UInt8), [(a4, N, c4)][j]? = some p → [(A.drop 2).take N][j]? = some X → Rd byteE (w4.alloc (.cells #[.slice a4 N c4] 41)) p.1 p.2.1 p.2.2 X ∧ ∀ b o s, p.1 = some ⟨b, o, s⟩ → w2.heap.size ≤ b ∧ b < (w4.alloc (.cells #[.slice a4 N c4] 41)).heap.size ∧ (Value.slice a7 O.length c7).ownBlock ≠ some b) :=
            Lib.hid fun j p X hp hX => by
              cases j with
              | succ j => simp at hp
              | zero =>
                simp only [List.getElem?_cons_zero, Option.some.injEq] at hp hX
                subst hp
                subst hX
                obtain ⟨a', c', e, r⟩ := hO4'.out.rd
                rw [hX.out] at e r
                cases e
                refine ⟨r.ext k5, fun b o s e => ?_⟩
                have h4 := own_addr hO4'.out b o s e
                refine ⟨by omega, Nat.lt_of_lt_of_le h4.2 k5.size, fun e' => ?_⟩
                have := (ho7.lt b e').2
                omega
          have hlb := Lib.hid fun k hk => (ho7.lt k hk)
          generalize hW5 : w4.alloc (.cells #[.slice a4 N c4] 41) = w5 at *
          clear ho7 hel k5
          go_wp2_with (at_builtin; refine app_own (E := slE) rfl (.tmp 58) (.tmp 66) 40 40 rfl Try.underlying40 hi hz0 hz1 hz2 rfl rfl ho5.out rfl hsrc.out ?c1 ?c2 ?c3 ?_)
          case c1 => have := hpsl.out; simp [maxLen]; omega
          case c2 => have := hpsl.out; simp; omega
          case c3 => have := k45.size; omega
          intro v6 w6 h6 hg6 hv6
          have hOL6 := OwnL.app hps rfl h3.out q3.out h6 hg6 hv6
          obtain ⟨a6, c6, e6⟩ := hOL6.shape
          have hl1 : (O ++ [(A.drop 2).take N]).length = O.length + 1 := by simp
          rw [hl1] at e6
          subst e6
          have hgown : some g ≠ (Value.slice a7 O.length c7).ownBlock := fun e => by
            have h1 := (hlb.out g e.symm).1
            have h2 := hb02.size
            omega
          have hbk6 : Hid (Blk w6 g 63 (0, 0) [.slice a0 buf.length c0, .bool false, .bool true]) := Lib.hid ((hg6.block g (by have := hbk5.out.lt; omega) hgown).trans hbk5.out)
          have m1 : w6.cell? ⟨g, 1, none⟩ = some (.bool false) := by rw [hbk6.out.cell]; rfl
          have m2 : w6.frozen? ⟨g, 1, none⟩ = false := by rw [hbk6.out.frozen]; simp
          have hgr6 : w.grownBy w6 (some g) := by
            refine ⟨hg6.os.trans (k45.os.trans hgr.out.os), hg6.tape.trans (k45.tape.trans hgr.out.tape), hg6.output.trans (k45.output.trans hgr.out.output), Nat.le_trans hgr.out.size (Nat.le_trans k45.size hg6.size), fun k hk hne => ?_⟩
            have h1 := hgr.out.size
            refine (hg6.block k (by have := k45.size; omega) (fun e => ?_)).trans ((k45.block k (by omega)).trans (hgr.out.block k hk hne))
            have := (hlb.out k e.symm).1
            have := hb02.size
            omega
          have hrA6 : Hid (Rd byteE w6 ad (A.length - (2 + N)) (cA - (2 + N)) (A.drop (2 + N))) := Lib.hid (hrd'.out.keep fun b o s e hb => by
            obtain ⟨o', s', e'⟩ := hdd'.out b o s e
            have hr := had.out b o' s' e'
            refine (hg6.block b (by have := k45.size; omega) (fun e => ?_)).trans (k45.block b hb)
            have := (hlb.out b e.symm).1
            omega)
          have had6 : Hid (∀ b o s, ad = some ⟨b, o, s⟩ → w1.heap.size ≤ b ∧ b < w2.heap.size) := Lib.hid fun b o s e => by
            obtain ⟨o', s', e'⟩ := hdd'.out b o s e
            exact had.out b o' s' e'
          have hgr6' := Lib.hid hgr6
          have hOL6' := Lib.hid hOL6
          have hsz6 : Hid (w2.heap.size ≤ w6.heap.size) := Lib.hid (by have := k45.size; have := hg6.size; omega)
          clear h6 hg6 hv6 hgown hgr6 hOL6 k45 hps hlb
          go_wp2_with fail
          have hd : decide ((4096 : Int) < (O.length : Int) + 1) = false := by simp; omega
          rw [hd]
          go_roundw
          case rel =>
            refine ⟨A.drop (2 + N), O ++ [(A.drop 2).take N], ad, cA - (2 + N), by rw [List.length_drop], ?_, had6, ?_, ?_, ?_, ?_, ?_, ?_⟩
            · have hk : Rd byteE (w6.setCell ⟨g, 1, none⟩ (.bool false)) ad (A.length - (2 + N)) (cA - (2 + N)) (A.drop (2 + N)) := hrA6.out.keep fun b o s e _ => Below.heap_setCell _ _ _ _ (by have := (had6.out b o s e).1; show b ≠ g; omega)
              rw [List.length_drop]
              exact Lib.hid hk
            · exact Lib.hid (hOL6'.out.keep (fun b hb _ => Below.heap_setCell _ _ _ _ (by have := hb02.size; show b ≠ g; omega)) (by simp))
            · exact Lib.hid (hbk6.out.set 1 (.bool false))
            · exact Lib.hid (grown_tr hgr6'.out (grown_set1 _ _ _ _))
            · exact Lib.hid (by simpa using hsz6.out)
            · exact Lib.hid (by rw [hfr.out, hf'.out]; simp)
            · simp; omega
          case measure => simp [lenOf]; omega
    · have hf := frames_few (l := A) (by omega)
      have hN : numP A 0 2 = (0, false) := by unfold numP; rw [if_neg (by omega)]
      go_wp2_with fail
      refine (u16_any hA.out 0 (by omega) (by omega)).mono ?_
      rw [hN]
      dsimp only
      rintro e w3 ⟨rfl, rfl⟩
      have q1 : wr.cell? ⟨g, 1, none⟩ = some (.bool false) := by rw [hBk.out.cell]; rfl
      go_wp2_with fail
      refine (clone_any hA.out (by omega)).mono ?_
      rintro e w4 ⟨⟨v4, rfl, hO4⟩, k4⟩
      obtain ⟨a4, c4, rfl⟩ := hO4.shape
      have q5 := Lib.hid (feed_close hBk.out (by have := hb02.size; omega) hsz.out hO4 k4 hOL.out)
      have hb4 := hBk.out.below k4 hBk.out.lt
      have q6 : w4.frozen? ⟨g, 0, none⟩ = false := by rw [hb4.frozen]; simp
      have q7 : w4.cell? ⟨g, 0, none⟩ = some (.slice a0 buf.length c0) := by rw [hb4.cell]; rfl
      clear hO4 hb4
      obtain ⟨a7, c7, e7⟩ := hOL.out.shape
      subst e7
      go_wp2_with fail
      ((try simp only [Exit.inBlock, Exit.then]); refine bodyPost_ret (results_tmp2 rfl _ _ _) rfl ?_)
      have hfr' := hfr.out
      rw [hf, List.append_nil] at hfr'
      rw [hAll, hfr']
      exact ⟨.inr ⟨rfl, ⟨_, rfl, q5.out.2.1.mono (hb02.size)⟩, q5.out.1.mono hgr.out.size⟩, grown_tr hgr.out q5.out.2.2⟩
end Go.Proofs.Ytmimbfikjnfhdaa
