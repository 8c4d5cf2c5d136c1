/- Layer 1: the reader, the document's. -/
import Derived.Test.YtffdcfannnmjnaaRdrC
import Derived.Deep.RegionHeld3
namespace Go.Proofs.Ytffdcfannnmjnaa
open Go.RowKit

/-- append onto a slice of the call's own, as a step of a region that draws -/
theorem step_own {α : Type} {P : Program} {E : Enc α} {ops : Array Oper} {o : Oper} {a : Act} {W : World} {K : Act → World → Prop} {Q : Exit → Act → World → Prop} {Ep : Prop} (hgd : o.guard = none) (s x : Operand) (t tx : TypeId)
    (ho : o.op = .call { callee := .builtin .append, args := #[s, x], argTypes := #[t, tx] }) {i : TypeInfo} {z : Value} {bytes : Nat} (ht : P.underlying t = some (.slice E.e)) (hi : P.info? E.e = some i) (hz : i.zero = some z)
    (hsize : i.size = E.k) (hby : i.bytes = bytes) (hzc : z.cells.toList = E.f E.z) {base : Nat} {v xv : Value} {l news : List α} (hs : a.eval s = v) (hown : Own E W base v l) (hx : a.eval x = xv) (hsrc : Src P E.k tx xv news.length (rowOf E news) W)
    (h63 : l.length + news.length ≤ maxLen) (hbytes : (l.length + news.length) * bytes ≤ 140737488355328) (hbase : base ≤ W.heap.size)
    (h : ∀ v' w', Own E w' base v' (l ++ news) → W.grownBy w' v.ownBlock → (v'.ownBlock = v.ownBlock ∨ v'.ownBlock = some W.heap.size) → K (a.put o.dst v') w') :
    if Region.wanted o (yielded ops a.tmps) = true then Oper.wp P o a W K Q else Ep := by
  have hw : Region.wanted o (yielded ops a.tmps) = true := by simp [Region.wanted, hgd]
  rw [if_pos hw]
  obtain ⟨v', w', hr, h2, h3, h4⟩ := run_append_Own (P := P) E W base t tx o.type i z bytes ht hi hz hsize hby hzc v l hown xv news hsrc h63 hbytes hbase
  unfold Oper.wp execOp
  simp only [ho, resolve, invoke, builtin, Sem.run_bind, Sem.run_pure, Result.andThen_ok, List.map_toArray, List.map_cons, List.map_nil, hs, hx, hr]
  exact h v' w' h2 h3 h4
theorem cell_below {w w' : World} (hb : Below w.heap.size w w') {g j : Nat} {v : Value} (h : w.cell? ⟨g, j, none⟩ = some v) : w'.cell? ⟨g, j, none⟩ = some v := by
  rw [← h]; exact World.cell?_of_block (w := w) (hb.block g (World.block_lt_of_cell? w _ h))
theorem below_own {w w1 w2 : World} {o : Obj} (hb : Below w.heap.size w (w1.alloc o)) (hsz : w.heap.size ≤ w1.heap.size) {n c : Nat} (hg : (w1.alloc o).grownBy w2 (Value.slice (some ⟨w1.heap.size, 0, none⟩) n c).ownBlock) : Below w.heap.size w w2 :=
  hb.grown hg (by simp; omega) (fun k hk => by simp [Value.ownBlock] at hk; omega)
/-- append([]byte{}, x...) as a step of a region that draws -/
theorem step_lit {ops : Array Oper} {o : Oper} {a : Act} {w W0 : World} {K : Act → World → Prop} {Q : Exit → Act → World → Prop} {Ep : Prop} {q : List UInt8} {n c : Nat} {aa : Option Addr} (hgd : o.guard = none) (s x : Operand)
    (ho : o.op = .call { callee := .builtin .append, args := #[s, x], argTypes := #[27, 27] }) (hs : a.eval s = .slice (some ⟨W0.heap.size, 0, none⟩) 0 0) (hx : a.eval x = .slice aa n c) (hR : Rd byteE w aa n c q) (hq : n ≤ 140737488355328)
    (hb : Below w.heap.size w (W0.alloc (.cells #[] 5))) (hW : w.heap.size ≤ W0.heap.size)
    (h : ∀ aO cO w', Hid (Own byteE w' w.heap.size (.slice aO n cO) q) → Below w.heap.size w w' → K (a.put o.dst (.slice aO n cO)) w') :
    if Region.wanted o (yielded ops a.tmps) = true then Oper.wp Try.prog o a (W0.alloc (.cells #[] 5)) K Q else Ep := by
  obtain ⟨i0, hi, hz0, hz1, hz2⟩ := info_parts Try.info5
  have hl := hR.len
  refine step_own (E := byteE) hgd s x 27 27 ho Try.underlying27 hi hz0 hz1 hz2 rfl hs (Own.made byteE W0 #[] [] 0 rfl rfl (Nat.zero_le _)) hx ((hR.ext hb).src (P := Try.prog) Try.underlying27) (by simp [maxLen]; omega) (by simp; omega) (by simp) ?_
  intro v' w2 ho2 hg _
  obtain ⟨aO, cO, rfl⟩ := ho2.shape
  have ho3 : Own byteE w2 w.heap.size (.slice aO n cO) q := by
    have := ho2.mono hW
    simpa [hl] using this
  have := h aO cO w2 ho3 (below_own hb hW hg)
  simpa [hl] using this
/-- block g is the document's reader -/
def Rrd (w : World) (lo g : Nat) (l : List UInt8) (at_ : Nat) (bad : Bool) : Prop :=
  ∃ a n c, Blk w g 59 (0, 0) [.slice a n c, .int .i64 at_, .bool bad] ∧ Rd byteE w a n c (if bad then [] else l) ∧ (∀ b o s, a = some ⟨b, o, s⟩ → lo ≤ b ∧ b < g) ∧ at_ ≤ l.length ∧ (bad = true → at_ = 0)
theorem Rrd.lt {w : World} {lo g : Nat} {l : List UInt8} {at_ : Nat} {bad : Bool} (h : Rrd w lo g l at_ bad) : g < w.heap.size := by obtain ⟨_, _, _, h, _⟩ := h; exact h.lt
theorem Rrd.keep {w w' : World} {lo g : Nat} {l : List UInt8} {at_ : Nat} {bad : Bool} (h : Rrd w lo g l at_ bad) (hk : ∀ b, lo ≤ b → b ≤ g → w'.heap[b]? = w.heap[b]?) (hlg : lo ≤ g) : Rrd w' lo g l at_ bad := by
  obtain ⟨a, n, c, h1, h2, h3, h4, h5⟩ := h
  exact ⟨a, n, c, (hk g hlg (Nat.le_refl _)).trans h1, h2.keep fun b o s e _ => hk b (h3 b o s e).1 (Nat.le_of_lt (h3 b o s e).2), h3, h4, h5⟩
theorem Rrd.same {w w' : World} {lo g : Nat} {l : List UInt8} {at_ : Nat} {bad : Bool} (h : Rrd w lo g l at_ bad) (e : w'.heap = w.heap) : Rrd w' lo g l at_ bad := by
  obtain ⟨a, n, c, h1, h2, r⟩ := h
  exact ⟨a, n, c, (congrArg (·[g]?) e).trans h1, h2.keep fun b _ _ _ _ => congrArg (·[b]?) e, r⟩
theorem Rrd.put {w : World} {lo g : Nat} {l : List UInt8} {at_ : Nat} (h : Rrd w lo g l at_ false) (p : Nat) (hp : p ≤ l.length) : Rrd (w.setCell ⟨g, 1, none⟩ (.int .i64 p)) lo g l p false := by
  obtain ⟨a, n, c, h1, h2, h3, h4, h5⟩ := h
  refine ⟨a, n, c, h1.set 1 (.int .i64 p), h2.keep fun b o s e _ => Below.heap_setCell _ _ _ _ ?_, h3, hp, fun e => by cases e⟩
  have := (h3 b o s e).2; simp only [ne_eq]; omega
theorem Rrd.bad {w : World} {lo g : Nat} {l : List UInt8} {at_ : Nat} {bad : Bool} (h : Rrd w lo g l at_ bad) : Rrd (((w.setCell ⟨g, 2, none⟩ (.bool true)).setCell ⟨g, 1, none⟩ (.int .i64 0)).setCell ⟨g, 0, none⟩ (.slice none 0 0)) lo g l 0 true := by
  obtain ⟨a, n, c, h1, h2, h3, h4, h5⟩ := h
  exact ⟨none, 0, 0, ((h1.set 2 (.bool true)).set 1 (.int .i64 0)).set 0 (.slice none 0 0), Rd.nil _ _, (fun b o s e => by cases e), Nat.zero_le _, fun _ => rfl⟩
theorem grown_set3 (w : World) (g i j k : Nat) (u v x : Value) : w.grownBy (((w.setCell ⟨g, i, none⟩ u).setCell ⟨g, j, none⟩ v).setCell ⟨g, k, none⟩ x) (some g) :=
  grown_trans (grown_trans (grown_set _ _ _ _) (grown_set _ _ _ _)) (grown_set _ _ _ _)

set_option maxHeartbeats 2000000 in
set_option maxRecDepth 100000 in
theorem rrd_Take_no {w : World} {lo g : Nat} {l : List UInt8} {at_ : Nat} {bad : Bool} (h : Rrd w lo g l at_ bad) (hl : l.length ≤ 140737488355328) (n : Int) (hno : bad = true ∨ n < 0 ∨ (l.length : Int) - at_ < n) :
    Calls Try.prog 106 #[.pointer (some ⟨g, 0, none⟩), .int .i64 n] w fun e w' => e = .returned (.slice none 0 0) ∧ Rrd w' lo g l 0 true ∧ w.grownBy w' (some g) := by
  have h0 := h
  obtain ⟨a, m, c, h1, h2, h3, h4, h5⟩ := h
  have c0 : w.cell? ⟨g, 0, none⟩ = some (.slice a m c) := by rw [h1.cell]; rfl
  have c1 : w.cell? ⟨g, 1, none⟩ = some (.int .i64 at_) := by rw [h1.cell]; rfl
  have c2 : w.cell? ⟨g, 2, none⟩ = some (.bool bad) := by rw [h1.cell]; rfl
  have f0 : w.frozen? ⟨g, 0, none⟩ = false := by rw [h1.frozen]; simp
  have f1 : w.frozen? ⟨g, 1, none⟩ = false := by rw [h1.frozen]; simp
  have f2 : w.frozen? ⟨g, 2, none⟩ = false := by rw [h1.frozen]; simp
  have hm := h2.len
  clear h1 h2 h3 h5
  have hH := Lib.hid h0; clear h0
  cases bad with
  | true =>
    clear hno hm
    go_enter Try.func106, Try.ntmps106
    go_wp2_with fail
    go_quiet (fail)
    go_wp2_with fail
    go_ret
    exact ⟨rfl, (hH.out.same (w' := w.drewN _) rfl).bad, grown_drewN _ (grown_set3 _ _ _ _ _ _ _ _)⟩
  | false =>
    have hm' : m = l.length := by simpa using hm.symm
    subst hm'
    clear hm
    have ew : IntKind.i64.wrap ((l.length : Int) - (at_ : Int)) = (l.length : Int) - (at_ : Int) := IntWalk.i64_in _ (by omega)
    by_cases hn : n < 0
    · clear hno
      go_enter Try.func106, Try.ntmps106
      go_wp2_with fail
      go_quiet (fail)
      go_wp2_with fail
      go_ret
      exact ⟨rfl, (hH.out.same (w' := w.drewN _) rfl).bad, grown_drewN _ (grown_set3 _ _ _ _ _ _ _ _)⟩
    · have hn2 : (l.length : Int) - at_ < n := by
        rcases hno with h | h | h
        · cases h
        · exact absurd h hn
        · exact h
      clear hno
      go_enter Try.func106, Try.ntmps106
      go_wp2_with fail
      go_quiet (fail)
      go_wp2_with fail
      go_ret
      exact ⟨rfl, (hH.out.same (w' := w.drewN _) rfl).bad, grown_drewN _ (grown_set3 _ _ _ _ _ _ _ _)⟩
set_option maxHeartbeats 2000000 in
set_option maxRecDepth 100000 in
theorem rrd_Jump {w : World} {lo g : Nat} {l : List UInt8} {at_ : Nat} {bad : Bool} (h : Rrd w lo g l at_ bad) (n : Int) :
    Calls Try.prog 107 #[.pointer (some ⟨g, 0, none⟩), .int .i64 n] w fun e w' => e = .returned (.tuple #[]) ∧ Rrd w' lo g l (jmpAt l bad n) (!jmp l bad n) ∧ w.grownBy w' (some g) := by
  have h0 := h
  obtain ⟨a, m, c, h1, h2, h3, h4, h5⟩ := h
  have c0 : w.cell? ⟨g, 0, none⟩ = some (.slice a m c) := by rw [h1.cell]; rfl
  have c1 : w.cell? ⟨g, 1, none⟩ = some (.int .i64 at_) := by rw [h1.cell]; rfl
  have c2 : w.cell? ⟨g, 2, none⟩ = some (.bool bad) := by rw [h1.cell]; rfl
  have f0 : w.frozen? ⟨g, 0, none⟩ = false := by rw [h1.frozen]; simp
  have f1 : w.frozen? ⟨g, 1, none⟩ = false := by rw [h1.frozen]; simp
  have f2 : w.frozen? ⟨g, 2, none⟩ = false := by rw [h1.frozen]; simp
  have hm := h2.len
  clear h1 h2 h3 h5 h4
  have hH := Lib.hid h0; clear h0
  cases bad with
  | true =>
    clear hm
    go_enter Try.func107, Try.ntmps107
    go_wp2_with fail
    first | ((try simp only [Exit.inBlock, Exit.then]); refine bodyPost_ret (results_none rfl _ _ _) rfl ?_) | go_end0
    exact ⟨rfl, by simpa [jmpAt, jmp] using hH.out.bad, grown_set3 _ _ _ _ _ _ _ _⟩
  | false =>
    have hm' : m = l.length := by simpa using hm.symm
    subst hm'
    clear hm
    by_cases hn : n < 0
    · have hj : jmp l false n = false := by unfold jmp; simp; omega
      have hJ := Lib.hid hj; clear hj
      go_enter Try.func107, Try.ntmps107
      go_wp2_with fail
      first | ((try simp only [Exit.inBlock, Exit.then]); refine bodyPost_ret (results_none rfl _ _ _) rfl ?_) | go_end0
      exact ⟨rfl, by simp only [jmpAt, hJ.out]; exact hH.out.bad, grown_set3 _ _ _ _ _ _ _ _⟩
    · by_cases hn2 : (l.length : Int) < n
      · have hj : jmp l false n = false := by unfold jmp; simp; omega
        have hJ := Lib.hid hj; clear hj
        go_enter Try.func107, Try.ntmps107
        go_wp2_with fail
        first | ((try simp only [Exit.inBlock, Exit.then]); refine bodyPost_ret (results_none rfl _ _ _) rfl ?_) | go_end0
        exact ⟨rfl, by simp only [jmpAt, hJ.out]; exact hH.out.bad, grown_set3 _ _ _ _ _ _ _ _⟩
      · have hj : jmp l false n = true := by unfold jmp; simp; omega
        have hJ := Lib.hid hj; clear hj
        obtain ⟨k, rfl⟩ : ∃ k : Nat, n = k := ⟨n.toNat, by omega⟩
        have hput := Lib.hid (hH.out.put k (by omega))
        go_enter Try.func107, Try.ntmps107
        go_wp2_with fail
        first | ((try simp only [Exit.inBlock, Exit.then]); refine bodyPost_ret (results_none rfl _ _ _) rfl ?_) | go_end0
        exact ⟨rfl, by simp only [jmpAt, hJ.out]; exact hput.out, grown_set _ _ _ _⟩

set_option maxHeartbeats 2000000 in
set_option maxRecDepth 100000 in
theorem rrd_Take_yes {w : World} {lo g : Nat} {l : List UInt8} {at_ : Nat} (h : Rrd w lo g l at_ false) (hl : l.length ≤ 140737488355328) (n : Nat) (hn : at_ + n ≤ l.length) (hlg : lo ≤ g) :
    Calls Try.prog 106 #[.pointer (some ⟨g, 0, none⟩), .int .i64 n] w fun e w' => (∃ v, e = .returned v ∧ Own byteE w' w.heap.size v ((l.drop at_).take n)) ∧ Rrd w' lo g l (at_ + n) false ∧ w.grownBy w' (some g) := by
  obtain ⟨i0, hi, hz0, hz1, hz2⟩ := info_parts Try.info5
  have h0 := h
  obtain ⟨a, m, c, h1, h2, h3, h4, h5⟩ := h
  simp only [Bool.false_eq_true, if_false] at h2
  have hm := h2.len
  subst hm
  have hsz1 : (Try.prog.info? byteE.e).map (·.size) = some byteE.k := by kernel_rfl
  obtain ⟨a', hsl, hr⟩ := cut_lh (P := Try.prog) h2 27 Try.underlying27 hsz1 .i64 .i64 (at_ : Int) ((at_ : Int) + n) at_ (at_ + n) rfl (by omega) (by omega) hn
  have hd : (l.take (at_ + n)).drop at_ = (l.drop at_).take n := by rw [List.drop_take]; congr 1; omega
  rw [hd, show at_ + n - at_ = n by omega] at hr
  rw [show at_ + n - at_ = n by omega] at hsl
  have hq : ((l.drop at_).take n).length = n := hr.len
  have c0 : w.cell? ⟨g, 0, none⟩ = some (.slice a l.length c) := by rw [h1.cell]; rfl
  have c1 : w.cell? ⟨g, 1, none⟩ = some (.int .i64 at_) := by rw [h1.cell]; rfl
  have c2 : w.cell? ⟨g, 2, none⟩ = some (.bool false) := by rw [h1.cell]; rfl
  have hglt := h1.lt
  clear h1 h2 h3 h5 hd
  have hH := Lib.hid h0; clear h0
  have hR := Lib.hid hr; clear hr
  have ew : IntKind.i64.wrap ((l.length : Int) - (at_ : Int)) = (l.length : Int) - (at_ : Int) := IntWalk.i64_in _ (by omega)
  have ew2 : IntKind.i64.wrap ((at_ : Int) + (n : Int)) = (at_ : Int) + (n : Int) := IntWalk.i64_in _ (by omega)
  generalize hQ : (l.drop at_).take n = q at *
  have hQ' := Lib.hid hQ; clear hQ
  go_enter Try.func106, Try.ntmps106
  go_wp2_with fail
  go_quiet (fail)
  go_wp2_with fail
  go_region_held3 (fun w' => Below w.heap.size w w' ∧ w'.cell? ⟨g, 0, none⟩ = some (.slice a l.length c) ∧ w'.cell? ⟨g, 1, none⟩ = some (.int .i64 at_))
    (first | assumption | exact ⟨below_drewN (Below.refl _ _) _, c0, c1⟩ | exact (fun hb => ⟨hb, cell_below hb c0, cell_below hb c1⟩) (below_drewN (Below.refl _ _) _).drew | exact (fun hb => ⟨hb, cell_below hb c0, cell_below hb c1⟩) ((below_drewN (Below.refl _ _) _).alloc (Nat.le_refl _) _) | exact (fun hb => ⟨hb, cell_below hb c0, cell_below hb c1⟩) (by assumption))
    ((refine step_lit (by rfl) (.tmp 37) (.tmp 52) (by rfl) (by rfl) (by rfl) hR.out (by omega) (And.left (by assumption)) (Nat.le_refl _) ?_; intro aO cO w2 hO hb2))
  have d1 : w2.cell? ⟨g, 1, none⟩ = some (.int .i64 at_) := cell_below hb2 c1
  have hR2 := Lib.hid (hH.out.keep (w' := w2) (fun b _ h2 => hb2.block b (by omega)) hlg)
  have f1 : w2.frozen? ⟨g, 1, none⟩ = false := by obtain ⟨_, _, _, r, _⟩ := hR2.out; rw [r.frozen]; simp
  have hP := Lib.hid (hR2.out.put (at_ + n) hn)
  go_wp2_with fail
  go_ret
  refine ⟨⟨_, rfl, ?_⟩, ?_, ?_⟩
  · refine hO.out.keep fun k hk => Below.heap_setCell _ _ _ _ ?_
    have := (hO.out.lt k hk).1
    simp only [ne_eq]; omega
  · simpa using hP.out
  · exact grown_trans (grown_of_below hb2) (grown_set _ _ _ _)
/-- what is taken, and the place behind -/
theorem rrd_Take {w : World} {lo g : Nat} {l : List UInt8} {at_ : Nat} {bad : Bool} (h : Rrd w lo g l at_ bad) (hl : l.length ≤ 140737488355328) (n : Int) (hlg : lo ≤ g) :
    Calls Try.prog 106 #[.pointer (some ⟨g, 0, none⟩), .int .i64 n] w fun e w' => (∃ v, e = .returned v ∧ Own byteE w' w.heap.size v (tkL l at_ bad n)) ∧ Rrd w' lo g l (tkAt l at_ bad n) (!tk l at_ bad n) ∧ w.grownBy w' (some g) := by
  cases ht : tk l at_ bad n with
  | false =>
    refine (rrd_Take_no h hl n (tk_no ht)).mono ?_
    rintro e w' ⟨rfl, h1, h2⟩
    refine ⟨⟨_, rfl, ?_⟩, ?_, h2⟩
    · simp only [tkL, ht]; exact Own.nil _ _ _
    · simp only [tkAt, ht]; exact h1
  | true =>
    obtain ⟨rfl, k, ⟨rfl, hk⟩ | hf⟩ := tk_yes ht
    · refine (rrd_Take_yes h hl k hk hlg).mono ?_
      rintro e w' ⟨⟨v, rfl, h0⟩, h1, h2⟩
      refine ⟨⟨v, rfl, ?_⟩, ?_, h2⟩
      · simp only [tkL, ht]; exact h0
      · simp only [tkAt, ht]; exact h1
    · exact hf.elim
theorem rnumber_of {w1 : World} {a' : Option Addr} {m c' : Nat} (l : List UInt8) (at_ : Nat) (bad : Bool) (size : Nat) (hs : size ≤ 4) (hs1 : 1 ≤ size) (_hl : l.length ≤ 140737488355328) (hr : Rd byteE w1 a' m c' (tkL l at_ bad size)) :
    ∃ b : Bool, Calls Try.prog 101 #[.slice a' m c', .int .i64 0, .int .i64 size] w1 fun e w' => e = .returned (.tuple #[.int .u64 (tkN l at_ bad size), .bool b]) ∧ w1 = w' := by
  have hlen := hr.len
  have hle := tkL_le l at_ bad size
  cases ht : tk l at_ bad size with
  | true =>
    have hm : m = size := by rw [← hlen]; exact tkL_length _ _ _ _ ht
    subst hm
    refine ⟨true, (rnumber_yes hr 0 m hs (by omega) (by omega)).mono ?_⟩
    rintro e w' ⟨rfl, rfl⟩
    refine ⟨?_, rfl⟩
    rw [List.drop_zero, List.take_of_length_le (by rw [hr.len]; exact Nat.le_refl _)]; rfl
  | false =>
    have h0 : tkL l at_ bad size = [] := by simp [tkL, ht]
    have hm : m = 0 := by rw [← hlen, h0]; rfl
    subst hm
    refine ⟨false, (rnumber_no 0 size ⟨by omega, by omega⟩ hs (by omega)).mono ?_⟩
    rintro e w' ⟨rfl, rfl⟩
    refine ⟨?_, rfl⟩
    unfold tkN; rw [h0]; rfl
set_option maxHeartbeats 2000000 in
set_option maxRecDepth 100000 in
theorem rrd_Number {w : World} {lo g : Nat} {l : List UInt8} {at_ : Nat} {bad : Bool} (h : Rrd w lo g l at_ bad) (hl : l.length ≤ 140737488355328) (size : Nat) (hs : size ≤ 4) (hs1 : 1 ≤ size) (hlg : lo ≤ g) :
    Calls Try.prog 105 #[.pointer (some ⟨g, 0, none⟩), .int .i64 size] w fun e w' => e = .returned (.int .u64 (tkN l at_ bad size)) ∧ Rrd w' lo g l (tkAt l at_ bad size) (!tk l at_ bad size) ∧ w.grownBy w' (some g) := by
  have hH := Lib.hid h; clear h
  go_enter Try.func105, Try.ntmps105
  go_wp2_with (go_at_call 106; refine (rrd_Take hH.out hl _ hlg).mono ?_)
  rintro e w1 ⟨⟨v, rfl, ho⟩, hR, hg⟩
  obtain ⟨a', c', rfl, hr⟩ := ho.rd
  obtain ⟨b, hb⟩ := rnumber_of l at_ bad size hs hs1 hl hr
  have hRR := Lib.hid hR
  clear hr hR ho
  go_wp2_with (go_at_call 101; refine hb.mono ?_)
  rintro e w2 ⟨rfl, rfl⟩
  go_wp2_with fail
  go_ret
  exact ⟨rfl, hRR.out, hg⟩
end Go.Proofs.Ytffdcfannnmjnaa
