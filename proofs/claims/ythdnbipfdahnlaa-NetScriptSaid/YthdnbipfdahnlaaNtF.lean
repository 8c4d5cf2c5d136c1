/- The program's network: Due 12. Printed by gen_ntf.py. -/
import Derived.Test.YthdnbipfdahnlaaNtE
namespace Go.Proofs.Ythdnbipfdahnlaa
open Go Go.RowKit
def dueS (s : NS) (y : Int) : List Fl × Int × NS :=
  if y < 0 ∨ 1099511627776 < y then ([], 2, s) else
    (s.A.takeWhile (fun f => decide (f.at_ ≤ y)), 0, { s with A := s.A.dropWhile (fun f => decide (f.at_ ≤ y)), c := { s.c with taken := s.c.taken + (s.A.takeWhile (fun f => decide (f.at_ ≤ y))).length } })
def pV (q : PD) : Value := .slice q.da q.dn q.dc
/-- packets that came, in memory of their own: their bytes lie in blocks of T, each in its own -/
structure OutP (w : World) (b : Nat) (v : Value) (L : List Fl) (T : Nat → Prop) (OP : List PD) : Prop where
  own : Own pkE w b v OP
  len : OP.length = L.length
  rep : ∀ (j : Nat) (q : PD) (f : Fl), OP[j]? = some q → L[j]? = some f → q.h = f.h ∧ Own byteE w 0 (pV q) f.d
  ap : ∀ (i j : Nat), i ≠ j → ∀ (p q : PD), OP[i]? = some p → OP[j]? = some q → Apt (pV p) (pV q)
  st : ∀ q ∈ OP, ∀ g, (pV q).ownBlock = some g → T g
theorem Rep.drop {w : World} {FL : List FD} {A : List Fl} (h : Rep w FL A) (k : Nat) : Rep w (FL.drop k) (A.drop k) := by
  refine ⟨by simp [h.len], fun j q f hq hf => ?_, fun i j hij p q hp hq => ?_⟩
  · rw [List.getElem?_drop] at hq hf
    exact h.rep _ q f hq hf
  · rw [List.getElem?_drop] at hp hq
    exact h.ap _ _ (by omega) p q hp hq
theorem takeWhile_eq {p : Fl → Bool} : ∀ (A : List Fl) (k : Nat), k ≤ A.length → (∀ f ∈ A.take k, p f = true) → (∀ x, A[k]? = some x → p x = false) → A.takeWhile p = A.take k ∧ A.dropWhile p = A.drop k
  | [], k, _, _, _ => by simp
  | a :: r, 0, _, _, h => by
    have := h a rfl
    simp [this]
  | a :: r, k + 1, hk, h1, h2 => by
    have ha : p a = true := h1 a (by simp)
    obtain ⟨i1, i2⟩ := takeWhile_eq r k (by simpa using hk) (fun f hf => h1 f (by simp [hf])) (fun x hx => h2 x (by simpa using hx))
    simp [ha, i1, i2]
def DueB (w : World) (n : Nat) (S : Nat → Prop) (s : NS) (y : Int) (e : Ending) (w' : World) : Prop := ∃ v T OP, e = .returned (.tuple #[v, .int .i64 (dueS s y).2.1]) ∧ (∀ g, T g → S g ∧ g ≠ n ∧ g < w.heap.size) ∧ OutP w' w.heap.size v (dueS s y).1 T OP ∧ NetP w' n (fun g => S g ∧ ¬ T g) (dueS s y).2.2 ∧ Tch (fun g => g = n) w w'
/-- what Due leaves, put together -/
theorem due_fin {w V : World} {n : Nat} {S : Nat → Prop} {fa : Option Addr} {fn fc : Nat} {F : List Fate} {at_ : Int} {v v' : Value} {ob ok : Option Nat} {FL : List FD} {A : List Fl} {c c2 : Cn} {k : Nat} {vo : Value} (hQ : NetQ w n S fa fn fc F at_ v ob FL A c)
    (ht : Tch (fun g => g = n) w V) (hO : Own pkE V w.heap.size vo ((FL.take k).map (·.p))) (hS : OwnS flE V v' (FL.drop k) ok) (hok : ok = ob ∨ ok = none)
    (hN : Blk V n 63 (0, 0) [.slice fa fn fc, .int .i64 at_, v', .int .i64 c2.sent, .int .i64 c2.lost, .int .i64 c2.forged, .int .i64 c2.taken, .bool true]) :
    ∃ T : Nat → Prop, (∀ g, T g → S g ∧ g ≠ n ∧ g < w.heap.size) ∧ OutP V w.heap.size vo (A.take k) T ((FL.take k).map (·.p)) ∧ NetQ V n (fun g => S g ∧ ¬ T g) fa fn fc F at_ v' ok (FL.drop k) (A.drop k) c2 := by
  have hne : ∀ {g : Nat} {e : TypeId} {C : List Value}, Blk w g e (0, 0) C → e ≠ 63 → g ≠ n := fun hC he e2 => by subst e2; exact he (blk_type hC hQ.blk)
  have hrep : Rep V FL A := hQ.rep.keep fun q hq g hg => by
    obtain ⟨C, hC⟩ := hQ.rep.blk q hq g hg
    exact ht.block g hC.lt (hne hC (by decide))
  refine ⟨fun g => ∃ q ∈ FL.take k, (dV q).ownBlock = some g, fun g ⟨q, hq, hg⟩ => ?_, ⟨hO, by simp [hQ.rep.len], fun j q f hq hf => ?_, fun i j hij p q hp hq => ?_, fun q hq g hg => ?_⟩, ?_⟩
  · obtain ⟨C, hC⟩ := hQ.rep.blk q (List.mem_of_mem_take hq) g hg
    exact ⟨hQ.sd q (List.mem_of_mem_take hq) g hg, hne hC (by decide), hC.lt⟩
  · rw [List.getElem?_map, List.getElem?_take] at hq
    rw [List.getElem?_take] at hf
    split at hq
    · rename_i hj
      rw [if_pos hj] at hf
      obtain ⟨q0, hq0, rfl⟩ := Option.map_eq_some_iff.1 hq
      have := hrep.rep j q0 f hq0 hf
      exact ⟨this.2.1, this.2.2⟩
    · cases hq
  · rw [List.getElem?_map] at hp hq
    obtain ⟨p0, hp0, rfl⟩ := Option.map_eq_some_iff.1 hp
    obtain ⟨q0, hq0, rfl⟩ := Option.map_eq_some_iff.1 hq
    have e1 : FL[i]? = some p0 := by rw [List.getElem?_take] at hp0; split at hp0; exact hp0; cases hp0
    have e2 : FL[j]? = some q0 := by rw [List.getElem?_take] at hq0; split at hq0; exact hq0; cases hq0
    exact hrep.ap i j hij p0 q0 e1 e2
  · obtain ⟨q0, hq0, rfl⟩ := List.mem_map.1 hq
    exact ⟨q0, hq0, hg⟩
  · have apart : ∀ {g : Nat} {e : TypeId} {C : List Value}, Blk w g e (0, 0) C → e ≠ 5 → ¬ ∃ q ∈ FL.take k, (dV q).ownBlock = some g := fun hC he ⟨q, hq, hg⟩ => by
      obtain ⟨C', hC'⟩ := hQ.rep.blk q (List.mem_of_mem_take hq) _ hg
      exact he (blk_type hC hC')
    refine ⟨hN, ht.own hQ.fates (fun g hg => ?_), hS, hrep.drop k, ⟨hQ.sn, apart hQ.blk (by decide)⟩, fun g hg => ⟨hQ.sf g hg, ?_⟩, fun g hg => ?_, fun q hq g hg => ⟨hQ.sd q (List.mem_of_mem_drop hq) g hg, ?_⟩⟩
    · obtain ⟨C, hC⟩ := own_blkE hQ.fates g hg
      exact hne hC (by decide)
    · obtain ⟨C, hC⟩ := own_blkE hQ.fates g hg
      exact apart hC (by decide)
    · rcases hok with h | h
      · have hg' : ob = some g := h.symm.trans hg
        obtain ⟨C, hC⟩ := hQ.own.blkE hg'
        exact ⟨hQ.so g hg', apart hC (by decide)⟩
      · rw [h] at hg; cases hg
    · rintro ⟨q2, hq2, hg2⟩
      obtain ⟨i, hi⟩ := List.getElem?_of_mem hq2
      obtain ⟨j, hj⟩ := List.getElem?_of_mem hq
      rw [List.getElem?_drop] at hj
      rw [List.getElem?_take] at hi
      split at hi
      · exact hQ.rep.ap i (k + j) (by omega) q2 q hi hj g hg2 hg
      · cases hi
set_option maxHeartbeats 16000000 in
set_option maxRecDepth 100000 in
theorem due_any {w : World} {n : Nat} {S : Nat → Prop} {s : NS} (hP : NetP w n S s) (hok : s.ok) (y : Int) :
    Calls Try.prog 12 #[.pointer (some ⟨n, 0, none⟩), .int .i64 y] w fun e w' => DueB w n S s y e w' := by
  obtain ⟨fa, fn, fc, v, ob, FL, hQ⟩ := hP
  obtain ⟨F, at_, A, c⟩ := s
  obtain ⟨sent, lost, forged, taken⟩ := c
  dsimp only at hQ
  have hta := hok.taken
  dsimp only at hta
  have hroom : A.length ≤ 16384 := hok.room
  clear hok
  have hFA := hQ.rep.len
  have hFl : FL.length ≤ 16384 := by omega
  have hno := Lib.hid (none_ok hQ)
  have hq0 := Lib.hid hQ
  have hnl : Hid (n < w.heap.size) := Lib.hid hQ.blk.lt
  by_cases hy : y < 0 ∨ 1099511627776 < y
  · have hd : Hid (dueS ⟨F, at_, A, ⟨sent, lost, forged, taken⟩⟩ y = ([], 2, ⟨F, at_, A, ⟨sent, lost, forged, taken⟩⟩)) := Lib.hid (by unfold dueS; rw [if_pos hy])
    have hfin := due_fin (k := 0) (vo := .slice none 0 0) (v' := v) (ok := ob) (c2 := ⟨sent, lost, forged, taken⟩) hQ (Tch.refl _ w) (Own.nil _ _ _) hQ.own (.inl rfl) hQ.blk
    obtain ⟨T, f1, f2, f3⟩ := hfin
    have hres : Hid (∃ T OP, (∀ g, T g → S g ∧ g ≠ n ∧ g < w.heap.size) ∧ OutP w w.heap.size (.slice none 0 0) [] T OP ∧ NetP w n (fun g => S g ∧ ¬ T g) ⟨F, at_, A, ⟨sent, lost, forged, taken⟩⟩ ∧ Tch (fun g => g = n) w w) := Lib.hid ⟨T, _, f1, f2, ⟨_, _, _, _, _, _, f3⟩, Tch.refl _ w⟩
    clear f1 f2 f3 hQ
    rcases hy with hy | hy
    · go_enter Try.func12, Try.ntmps12
      go_wp2_with fail
      refine hno.out.mono ?_
      rintro e w1 ⟨rfl, rfl⟩
      go_wp2_with fail
      refine bodyPost_ret (results_tmp2 rfl _ _ _) rfl ?_
      obtain ⟨T, OP, r⟩ := hres.out
      unfold DueB
      rw [hd.out]
      exact ⟨_, T, OP, rfl, r⟩
    · have hy0 : ¬ y < 0 := by omega
      go_enter Try.func12, Try.ntmps12
      go_wp2_with fail
      refine hno.out.mono ?_
      rintro e w1 ⟨rfl, rfl⟩
      go_wp2_with fail
      refine bodyPost_ret (results_tmp2 rfl _ _ _) rfl ?_
      obtain ⟨T, OP, r⟩ := hres.out
      unfold DueB
      rw [hd.out]
      exact ⟨_, T, OP, rfl, r⟩
  have hd : Hid (dueS ⟨F, at_, A, ⟨sent, lost, forged, taken⟩⟩ y = (A.takeWhile (fun f => decide (f.at_ ≤ y)), 0, ⟨F, at_, A.dropWhile (fun f => decide (f.at_ ≤ y)), ⟨sent, lost, forged, taken + (A.takeWhile (fun f => decide (f.at_ ≤ y))).length⟩⟩)) := Lib.hid (by unfold dueS; rw [if_neg hy])
  have hy1 : ¬ y < 0 := by omega
  have hy2 : ¬ 1099511627776 < y := by omega
  clear hy
  obtain ⟨va, vc, rfl⟩ := hQ.own.shape
  have hs0 : Hid (OwnS flE w (.slice va (FL.length - 0) vc) (FL.drop 0) ob) := Lib.hid (by simpa using hQ.own)
  have hB0 : Hid (Blk w n 63 (0, 0) [.slice fa fn fc, .int .i64 at_, .slice va FL.length vc, .int .i64 sent, .int .i64 lost, .int .i64 forged, .int .i64 taken, .bool true]) := Lib.hid (by simpa using hQ.blk)
  clear hQ
  go_enter Try.func12, Try.ntmps12
  go_wp2_with fail
  refine hno.out.mono ?_
  rintro e w1 ⟨rfl, rfl⟩
  go_wp2_with fail
  go_loopw [6] (fun v wr => ∃ (k : Nat) (va : Option Addr) (vc : Nat) (ok : Option Nat), k ≤ FL.length ∧ Hid (Own pkE wr w.heap.size v ((FL.take k).map (·.p))) ∧ Hid (Blk wr n 63 (0, 0) [.slice fa fn fc, .int .i64 at_, .slice va (FL.length - k) vc, .int .i64 sent, .int .i64 lost, .int .i64 forged, .int .i64 taken, .bool true]) ∧ Hid (OwnS flE wr (.slice va (FL.length - k) vc) (FL.drop k) ok) ∧ Hid (ok = ob ∨ ok = none) ∧ Hid (∀ f ∈ A.take k, f.at_ ≤ y) ∧ Hid (Tch (fun g => g = n) w wr)) (fun v _ => FL.length - (match v with | .slice _ m _ => m | _ => 0))
  case atStart => exact ⟨0, va, vc, ob, Nat.zero_le _, Lib.hid (Own.nil _ _ _), hB0, hs0, Lib.hid (.inl rfl), Lib.hid (fun f hf => by simp at hf), Lib.hid (Tch.refl _ _)⟩
  case round =>
    clear hs0 hB0
    obtain ⟨k, va, vc, ok, hk, hO, hB, hS, hok, hle, ht⟩ := hrel
    obtain ⟨oa, oc, rfl⟩ := hO.out.shape
    have hol : ((FL.take k).map (·.p)).length = k := by rw [List.length_map, List.length_take]; omega
    rw [hol] at hO
    simp only [hol]
    have hol' := Lib.hid hol
    clear hol
    obtain ⟨m, hm⟩ : ∃ m, FL.length - k = m := ⟨_, rfl⟩
    rw [hm] at hB hS
    have c2 : wr.cell? ⟨n, 2, none⟩ = some (.slice va m vc) := (hB.out.cell 2).trans rfl
    have c6 : wr.cell? ⟨n, 6, none⟩ = some (.int .i64 taken) := (hB.out.cell 6).trans rfl
    have f2 : wr.frozen? ⟨n, 2, none⟩ = false := by rw [hB.out.frozen]; try simp
    have f6 : wr.frozen? ⟨n, 6, none⟩ = false := by rw [hB.out.frozen]; try simp
    by_cases hlt : k < FL.length
    · have hm0 : (0 : Int) < m := by omega
      have hkA : k < A.length := by omega
      obtain ⟨q, hq⟩ : ∃ q, FL[k] = q := ⟨_, rfl⟩
      have hqk : Hid (FL[k]? = some q) := Lib.hid (by rw [List.getElem?_eq_getElem hlt, hq])
      have hdr : FL.drop k = q :: FL.drop (k + 1) := by rw [List.drop_eq_getElem_cons hlt, hq]
      obtain ⟨x0, x1, e1, hR⟩ := hS.out.rd
      simp only [Value.slice.injEq] at e1
      obtain ⟨rfl, -, rfl⟩ := e1
      rw [hdr] at hR
      obtain ⟨b, o, rfl, _, hc⟩ := rd_fl hR (by simp)
      have hat : Hid (q.at_ = A[k].at_) := Lib.hid (hq0.out.rep.rep k q A[k] hqk.out (List.getElem?_eq_getElem hkA)).1
      have hc := hc 0 (by simp)
      obtain ⟨aa, hh, da, dn, dc⟩ := q
      have d0 : wr.cell? ⟨b, o, none⟩ = some (.int .i64 aa) := by have h := hc 0 (.int .i64 aa) rfl; simpa using h
      have d1 : wr.cell? ⟨b, o + 1, none⟩ = some (.int .u32 hh.from_) := by have h := hc 1 (.int .u32 hh.from_) rfl; simpa using h
      have d2 : wr.cell? ⟨b, o + 2, none⟩ = some (.int .u16 hh.fport) := by have h := hc 2 (.int .u16 hh.fport) rfl; simpa using h
      have d3 : wr.cell? ⟨b, o + 3, none⟩ = some (.int .u32 hh.to_) := by have h := hc 3 (.int .u32 hh.to_) rfl; simpa using h
      have d4 : wr.cell? ⟨b, o + 4, none⟩ = some (.int .u16 hh.tport) := by have h := hc 4 (.int .u16 hh.tport) rfl; simpa using h
      have d5 : wr.cell? ⟨b, o + 5, none⟩ = some (.bool hh.stream) := by have h := hc 5 (.bool hh.stream) rfl; simpa using h
      have d6 : wr.cell? ⟨b, o + 6, none⟩ = some (.slice da dn dc) := by have h := hc 6 (.slice da dn dc) rfl; simpa using h
      clear hc hR hq
      dsimp only at hat
      by_cases hay : aa ≤ y
      · obtain ⟨i0, hi0, hz0, hz1, hz2⟩ := info_parts Try.info32
        obtain ⟨W2, hW2⟩ : ∃ W, wr.alloc (.cells #[.int .u32 hh.from_, .int .u16 hh.fport, .int .u32 hh.to_, .int .u16 hh.tport, .bool hh.stream, .slice da dn dc] 32) = W := ⟨_, rfl⟩
        have B2 : Blk W2 wr.heap.size 32 (0, 0) [.int .u32 hh.from_, .int .u16 hh.fport, .int .u32 hh.to_, .int .u16 hh.tport, .bool hh.stream, .slice da dn dc] := by rw [← hW2]; exact Blk.new wr 32 (0, 0) #[.int .u32 hh.from_, .int .u16 hh.fport, .int .u32 hh.to_, .int .u16 hh.tport, .bool hh.stream, .slice da dn dc]
        have k2 : Hid (Below wr.heap.size wr W2) := Lib.hid (by rw [← hW2]; exact alloc_bel _ _)
        have hsrc : Src Try.prog pkE.k 35 (.slice (some ⟨wr.heap.size, 0, none⟩) 1 1) 1 (rowOf pkE [(⟨hh, da, dn, dc⟩ : PD)]) W2 := (rd_blk (E := pkE) (X := [(⟨hh, da, dn, dc⟩ : PD)]) (fz := (0, 0)) B2 1 rfl (by decide)).src (P := Try.prog) (tx := 35) Try.underlying35
        have O2 := Lib.hid (hO.out.ext k2.out)
        have hws : Hid (w.heap.size ≤ W2.heap.size) := Lib.hid (Nat.le_trans ht.out.size k2.out.size)
        have hk3 : k ≤ 16384 := by omega
        obtain ⟨OL, hOL⟩ : ∃ OL, List.map (fun (x : FD) => x.p) (FL.take k) = OL := ⟨_, rfl⟩
        rw [hOL] at O2
        have hOl : OL.length = k := by rw [← hOL]; exact hol'.out
        have hz4 : OL.length + [(⟨hh, da, dn, dc⟩ : PD)].length ≤ maxLen := by rw [hOl]; simp [maxLen]; omega
        have hz5 : (OL.length + [(⟨hh, da, dn, dc⟩ : PD)].length) * 40 ≤ 140737488355328 := by rw [hOl]; simp; omega
        have hz4' := Lib.hid hz4
        have hz5' := Lib.hid hz5
        have hOL' := Lib.hid hOL
        clear B2 hz4 hz5 hOL hOl
        go_wp2_with (at_builtin; refine app_own (E := pkE) (l := OL) (news := [(⟨hh, da, dn, dc⟩ : PD)]) (base := w.heap.size) rfl (.tmp 32) (.tmp 40) 35 35 rfl Try.underlying35 hi0 hz0 hz1 hz2 rfl rfl O2.out rfl hsrc hz4'.out hz5'.out hws.out ?_)
        intro vo w9 ho9 hg9 _
        have htk : Hid (OL ++ [(⟨hh, da, dn, dc⟩ : PD)] = (FL.take (k + 1)).map (·.p)) := Lib.hid (by rw [List.take_add_one, hqk.out, ← hOL'.out]; simp)
        rw [htk.out] at ho9
        have tg : Tch (fun g => g = n) w w9 := (ht.out.trans (Tch.of_below k2.out) (fun b _ hb => hb)).trans (Tch.of_grown (S := fun g => w.heap.size ≤ g) hg9 (fun g hg => (O2.out.lt g hg).1)) (fun b hb1 hb2 => by omega)
        have hB9 : Hid (Blk w9 n 63 (0, 0) [.slice fa fn fc, .int .i64 at_, .slice (some ⟨b, o, none⟩) m vc, .int .i64 sent, .int .i64 lost, .int .i64 forged, .int .i64 taken, .bool true]) := Lib.hid ((hB.out.below k2.out hB.out.lt).grownV2 hg9 (fun e => by have := (O2.out.lt n e.symm).1; have := hnl.out; omega))
        have hS9 : Hid (OwnS flE w9 (.slice (some ⟨b, o, none⟩) m vc) (FL.drop k) ok) := Lib.hid ((hS.out.ext k2.out).tch (Tch.of_grown (S := fun g => (Value.slice oa k oc).ownBlock = some g) hg9 (fun g hg => hg)) (fun g hg e2 => by
          exact (hS.out.ext k2.out).apart O2.out (by decide) g e2 hg))
        obtain ⟨oa9, oc9, rfl⟩ := ho9.shape
        have hl9' : ((FL.take (k + 1)).map (·.p)).length = k + 1 := by rw [List.length_map, List.length_take]; omega
        rw [hl9'] at ho9
        have ho9' := Lib.hid ho9
        have tg' := Lib.hid tg
        rw [hdr] at hS9
        obtain ⟨v9, hrun, ob9, hS10, hob9⟩ := hS9.out.tail (P := Try.prog) 61 Try.underlying61 (by kernel_rfl)
        obtain ⟨va9, vc9, rfl⟩ := hS10.shape
        have hl9 : (FL.drop (k + 1)).length = FL.length - (k + 1) := List.length_drop
        rw [hl9] at hS10 hrun
        have hok10 : Hid (ob9 = ob ∨ ob9 = none) := Lib.hid (by
          rcases hob9 with h | h
          · rw [h]; exact hok.out
          · exact .inr h)
        have hle2 : Hid (∀ f ∈ A.take (k + 1), f.at_ ≤ y) := Lib.hid (fun f hf => by
          rw [List.take_succ_eq_append_getElem hkA] at hf
          rcases List.mem_append.1 hf with hf | hf
          · exact hle.out f hf
          · have : f = A[k] := by simpa using hf
            rw [this, ← hat.out]; exact hay)
        obtain ⟨m2, hm2⟩ : ∃ m, FL.length - (k + 1) = m := ⟨_, rfl⟩
        have hmm : Hid (m2 < m) := Lib.hid (by omega)
        rw [hm2] at hS10 hrun
        have hS10' := Lib.hid hS10
        have hm2' := Lib.hid hm2
        simp only [hl9']
        clear ho9 hg9 tg hS9 hS10 hob9 hsrc O2 hW2 k2 hl9 hl9' d0 d1 d2 d3 d4 d5 d6 c2 c6 f2 f6 hdr htk hm2
        have c2 : w9.cell? ⟨n, 2, none⟩ = some (.slice (some ⟨b, o, none⟩) m vc) := (hB9.out.cell 2).trans rfl
        have f2 : w9.frozen? ⟨n, 2, none⟩ = false := by rw [hB9.out.frozen]; try simp
        obtain ⟨V, hV⟩ : ∃ V, w9.setCell ⟨n, 2, none⟩ (.slice va9 m2 vc9) = V := ⟨_, rfl⟩
        have hBV : Hid (Blk V n 63 (0, 0) [.slice fa fn fc, .int .i64 at_, .slice va9 m2 vc9, .int .i64 sent, .int .i64 lost, .int .i64 forged, .int .i64 taken, .bool true]) := Lib.hid (by rw [← hV]; exact hB9.out.set 2 _)
        have tV : Tch (fun g => g = n) w9 V := by rw [← hV]; exact Tch.setCell (S := fun g => g = n) w9 (p := ⟨n, 2, none⟩) rfl _
        have hOV : Hid (Own pkE V w.heap.size (.slice oa9 (k + 1) oc9) ((FL.take (k + 1)).map (·.p))) := Lib.hid (tV.own ho9'.out (fun g hg e2 => by have := (ho9'.out.lt g hg).1; have := hnl.out; omega))
        have hSV : Hid (OwnS flE V (.slice va9 m2 vc9) (FL.drop (k + 1)) ob9) := Lib.hid (hS10'.out.tch tV (fun g hg e2 => by subst e2; exact hS10'.out.ne hB9.out (by decide) hg))
        have tW : Hid (Tch (fun g => g = n) w V) := Lib.hid (tg'.out.trans tV (fun b _ hb => hb))
        have hkm : Hid (k + 1 ≤ FL.length) := Lib.hid hlt
        clear tV hm
        go_wp2_with fail
        try rw [hV]
        go_roundw
        case rel => exact ⟨k + 1, va9, vc9, ob9, hkm.out, hOV, (by rw [hm2'.out]; exact hBV), (by rw [hm2'.out]; exact hSV), hok10, hle2, tW⟩
        case measure =>
          show FL.length - (k + 1) < FL.length - k
          omega
      · have etw := takeWhile_eq (p := fun f => decide (f.at_ ≤ y)) A k (by omega) (fun f hf => by simpa using hle.out f hf) (fun x hx => by
          rw [List.getElem?_eq_getElem hkA] at hx
          cases hx
          rw [← hat.out]
          simpa using hay)
        have etw' := Lib.hid etw
        clear etw
        go_upto_region 10 with (fail)
        obtain ⟨V, hV⟩ : ∃ V, wr.setCell ⟨n, 6, none⟩ (.int .i64 (taken + k)) = V := ⟨_, rfl⟩
        try rw [hV]
        have BV : Blk V n 63 (0, 0) [.slice fa fn fc, .int .i64 at_, .slice (some ⟨b, o, none⟩) m vc, .int .i64 sent, .int .i64 lost, .int .i64 forged, .int .i64 (taken + k), .bool true] := by rw [← hV]; exact hB.out.set 6 _
        have tV : Tch (fun g => g = n) wr V := by rw [← hV]; exact Tch.setCell (S := fun g => g = n) wr (p := ⟨n, 6, none⟩) rfl _
        have oV : Own pkE V w.heap.size (.slice oa k oc) ((FL.take k).map (·.p)) := tV.own hO.out (fun g hg e2 => by have := (hO.out.lt g hg).1; have := hnl.out; omega)
        have sV : OwnS flE V (.slice (some ⟨b, o, none⟩) m vc) (FL.drop k) ok := hS.out.tch tV (fun g hg e2 => by subst e2; exact hS.out.ne hB.out (by decide) hg)
        have hfin := due_fin (k := k) (c2 := ⟨sent, lost, forged, taken + k⟩) hq0.out (ht.out.trans tV (fun b _ hb => hb)) oV sV hok.out BV
        obtain ⟨T, g1, g2, g3⟩ := hfin
        have hlk : (A.take k).length = k := by rw [List.length_take]; omega
        have hres : Hid (∃ T OP, (∀ g, T g → S g ∧ g ≠ n ∧ g < w.heap.size) ∧ OutP V w.heap.size (.slice oa k oc) (dueS ⟨F, at_, A, ⟨sent, lost, forged, taken⟩⟩ y).1 T OP ∧ NetP V n (fun g => S g ∧ ¬ T g) (dueS ⟨F, at_, A, ⟨sent, lost, forged, taken⟩⟩ y).2.2 ∧ Tch (fun g => g = n) w V) := Lib.hid (by
          rw [hd.out, etw'.out.1, etw'.out.2, hlk]
          exact ⟨T, _, g1, g2, ⟨_, _, _, _, _, _, g3⟩, ht.out.trans tV (fun b _ hb => hb)⟩)
        have hd2 : Hid ((dueS ⟨F, at_, A, ⟨sent, lost, forged, taken⟩⟩ y).2.1 = 0) := Lib.hid (by rw [hd.out])
        clear g1 g2 g3 BV tV oV sV hlk hV c2 c6 d0 d1 d2 d3 d4 d5 d6
        go_wp2_with fail
        refine bodyPost_ret (results_tmp2 rfl _ _ _) rfl ?_
        obtain ⟨T, OP, r⟩ := hres.out
        unfold DueB
        rw [hd2.out]
        exact ⟨_, T, OP, rfl, r⟩
    · have hkk : k = FL.length := by omega
      have hmz : m = 0 := by omega
      subst hmz
      have etw := takeWhile_eq (p := fun f => decide (f.at_ ≤ y)) A k (by omega) (fun f hf => by simpa using hle.out f hf) (fun x hx => by
        have := (List.getElem?_eq_some_iff.1 hx).1
        omega)
      have etw' := Lib.hid etw
      clear etw hkk
      go_upto_region 10 with (fail)
      obtain ⟨V, hV⟩ : ∃ V, wr.setCell ⟨n, 6, none⟩ (.int .i64 (taken + k)) = V := ⟨_, rfl⟩
      try rw [hV]
      have BV : Blk V n 63 (0, 0) [.slice fa fn fc, .int .i64 at_, .slice va 0 vc, .int .i64 sent, .int .i64 lost, .int .i64 forged, .int .i64 (taken + k), .bool true] := by rw [← hV]; exact hB.out.set 6 _
      have tV : Tch (fun g => g = n) wr V := by rw [← hV]; exact Tch.setCell (S := fun g => g = n) wr (p := ⟨n, 6, none⟩) rfl _
      have oV : Own pkE V w.heap.size (.slice oa k oc) ((FL.take k).map (·.p)) := tV.own hO.out (fun g hg e2 => by have := (hO.out.lt g hg).1; have := hnl.out; omega)
      have sV : OwnS flE V (.slice va 0 vc) (FL.drop k) ok := hS.out.tch tV (fun g hg e2 => by subst e2; exact hS.out.ne hB.out (by decide) hg)
      have hfin := due_fin (k := k) (c2 := ⟨sent, lost, forged, taken + k⟩) hq0.out (ht.out.trans tV (fun b _ hb => hb)) oV sV hok.out BV
      obtain ⟨T, g1, g2, g3⟩ := hfin
      have hlk : (A.take k).length = k := by rw [List.length_take]; omega
      have hres : Hid (∃ T OP, (∀ g, T g → S g ∧ g ≠ n ∧ g < w.heap.size) ∧ OutP V w.heap.size (.slice oa k oc) (dueS ⟨F, at_, A, ⟨sent, lost, forged, taken⟩⟩ y).1 T OP ∧ NetP V n (fun g => S g ∧ ¬ T g) (dueS ⟨F, at_, A, ⟨sent, lost, forged, taken⟩⟩ y).2.2 ∧ Tch (fun g => g = n) w V) := Lib.hid (by
        rw [hd.out, etw'.out.1, etw'.out.2, hlk]
        exact ⟨T, _, g1, g2, ⟨_, _, _, _, _, _, g3⟩, ht.out.trans tV (fun b _ hb => hb)⟩)
      have hd2 : Hid ((dueS ⟨F, at_, A, ⟨sent, lost, forged, taken⟩⟩ y).2.1 = 0) := Lib.hid (by rw [hd.out])
      clear g1 g2 g3 BV tV oV sV hlk hV c2 c6
      go_wp2_with fail
      refine bodyPost_ret (results_tmp2 rfl _ _ _) rfl ?_
      obtain ⟨T, OP, r⟩ := hres.out
      unfold DueB
      rw [hd2.out]
      exact ⟨_, T, OP, rfl, r⟩
end Go.Proofs.Ythdnbipfdahnlaa
