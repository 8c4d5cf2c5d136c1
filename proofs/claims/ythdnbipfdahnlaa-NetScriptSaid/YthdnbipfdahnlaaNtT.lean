/- The document's network as it lies; may 29, New 18, wrong 43. Printed by gen_ntt.py. -/
import Derived.Test.YthdnbipfdahnlaaNtN
import Derived.Test.YthdnbipfdahnlaaNtM
namespace Go.Proofs.Ythdnbipfdahnlaa
open Go Go.RowKit
set_option maxHeartbeats 8000000 in
set_option maxRecDepth 100000 in
theorem rmay_any (w : World) (f : Fate) : Calls Try.prog 29 #[ftV f] w fun e w' => e = .returned (.bool (mayF f)) ∧ Below w.heap.size w w' := by
  obtain ⟨a, d, m⟩ := f
  unfold ftV
  dsimp only
  obtain ⟨r, hr⟩ : ∃ r, mayF (a, d, m) = r := ⟨_, rfl⟩
  rw [hr]
  unfold mayF at hr
  dsimp only at hr
  obtain ⟨W1, hW1⟩ : ∃ W, w.alloc (.cells #[.int .i64 a, .int .i64 d, .int .i64 m] 51) = W := ⟨_, rfl⟩
  have B1 : Hid (Blk W1 w.heap.size 51 (0, 0) [.int .i64 a, .int .i64 d, .int .i64 m]) := Lib.hid (by rw [← hW1]; exact Blk.new w 51 (0, 0) #[.int .i64 a, .int .i64 d, .int .i64 m])
  have k1 : Hid (Below w.heap.size w W1) := Lib.hid (by rw [← hW1]; exact alloc_bel _ _)
  have p0 : W1.cell? ⟨w.heap.size, 0, none⟩ = some (.int .i64 a) := (B1.out.cell 0).trans rfl
  have p1 : W1.cell? ⟨w.heap.size, 1, none⟩ = some (.int .i64 d) := (B1.out.cell 1).trans rfl
  have p2 : W1.cell? ⟨w.heap.size, 2, none⟩ = some (.int .i64 m) := (B1.out.cell 2).trans rfl
  by_cases h1 : d < 0
  · rw [if_pos (.inl h1)] at hr
    skip
    have hr' := Lib.hid hr
    clear hr
    go_enter Try.func29, Try.ntmps29
    go_wp2_with fail
    try rw [hW1]
    go_ret
    exact ⟨by rw [← hr'.out]; first | rfl | (simp; done) | (simp; assumption), k1.out⟩
  by_cases h2 : 86400 < d
  · rw [if_pos (.inr h2)] at hr
    skip
    have hr' := Lib.hid hr
    clear hr
    go_enter Try.func29, Try.ntmps29
    go_wp2_with fail
    try rw [hW1]
    go_ret
    exact ⟨by rw [← hr'.out]; first | rfl | (simp; done) | (simp; assumption), k1.out⟩
  rw [if_neg (by omega)] at hr
  by_cases g0 : m < 0
  · have hr0 : r = false := by
      rw [← hr]
      split
      · exact decide_eq_false (by omega)
      · split
        · exact decide_eq_false (by omega)
        · split
          · exact decide_eq_false (by omega)
          · rfl
    clear hr
    have hr : false = r := hr0.symm
    clear hr0
    skip
    have hr' := Lib.hid hr
    clear hr
    go_enter Try.func29, Try.ntmps29
    go_wp2_with fail
    try rw [hW1]
    go_ret
    exact ⟨by rw [← hr'.out]; first | rfl | (simp; done) | (simp; assumption), k1.out⟩
  by_cases h3 : a = 0
  · rw [if_pos (.inl h3)] at hr
    subst h3
    by_cases h4 : m = 0
    · subst h4
      skip
      have hr' := Lib.hid hr
      clear hr
      go_enter Try.func29, Try.ntmps29
      go_wp2_with fail
      try rw [hW1]
      go_ret
      exact ⟨by rw [← hr'.out]; first | rfl | (simp; done) | (simp; assumption), k1.out⟩
    · rw [decide_eq_false h4] at hr
      skip
      have hr' := Lib.hid hr
      clear hr
      go_enter Try.func29, Try.ntmps29
      go_wp2_with fail
      try rw [hW1]
      go_ret
      exact ⟨by rw [← hr'.out]; first | rfl | (simp; done) | (simp; assumption), k1.out⟩
  by_cases h5 : a = 1
  · rw [if_pos (.inr h5)] at hr
    subst h5
    by_cases h4 : m = 0
    · subst h4
      skip
      have hr' := Lib.hid hr
      clear hr
      go_enter Try.func29, Try.ntmps29
      go_wp2_with fail
      try rw [hW1]
      go_ret
      exact ⟨by rw [← hr'.out]; first | rfl | (simp; done) | (simp; assumption), k1.out⟩
    · rw [decide_eq_false h4] at hr
      skip
      have hr' := Lib.hid hr
      clear hr
      go_enter Try.func29, Try.ntmps29
      go_wp2_with fail
      try rw [hW1]
      go_ret
      exact ⟨by rw [← hr'.out]; first | rfl | (simp; done) | (simp; assumption), k1.out⟩
  rw [if_neg (by omega)] at hr
  by_cases h8 : a = 2
  · rw [if_pos h8] at hr
    subst h8
    by_cases g2 : m ≤ 86400
    · rw [decide_eq_true (And.intro (by omega) g2)] at hr
      skip
      have hr' := Lib.hid hr
      clear hr
      go_enter Try.func29, Try.ntmps29
      go_wp2_with fail
      try rw [hW1]
      go_ret
      exact ⟨by rw [← hr'.out]; first | rfl | (simp; done) | (simp; assumption), k1.out⟩
    · rw [decide_eq_false (fun h => g2 h.2)] at hr
      skip
      have hr' := Lib.hid hr
      clear hr
      go_enter Try.func29, Try.ntmps29
      go_wp2_with fail
      try rw [hW1]
      go_ret
      exact ⟨by rw [← hr'.out]; first | rfl | (simp; done) | (simp; assumption), k1.out⟩
  rw [if_neg h8] at hr
  by_cases h9 : a = 3
  · rw [if_pos h9] at hr
    subst h9
    by_cases g2 : m < 524280
    · rw [decide_eq_true (And.intro (by omega) g2)] at hr
      skip
      have hr' := Lib.hid hr
      clear hr
      go_enter Try.func29, Try.ntmps29
      go_wp2_with fail
      try rw [hW1]
      go_ret
      exact ⟨by rw [← hr'.out]; first | rfl | (simp; done) | (simp; assumption), k1.out⟩
    · rw [decide_eq_false (fun h => g2 h.2)] at hr
      skip
      have hr' := Lib.hid hr
      clear hr
      go_enter Try.func29, Try.ntmps29
      go_wp2_with fail
      try rw [hW1]
      go_ret
      exact ⟨by rw [← hr'.out]; first | rfl | (simp; done) | (simp; assumption), k1.out⟩
  rw [if_neg h9] at hr
  skip
  have hr' := Lib.hid hr
  clear hr
  go_enter Try.func29, Try.ntmps29
  go_wp2_with fail
  try rw [hW1]
  go_ret
  exact ⟨by rw [← hr'.out]; first | rfl | (simp; done) | (simp; assumption), k1.out⟩
/-- outside the blocks of T a reading is as it was -/
theorem Tch.rdn {α : Type} {E : Enc α} {T : Nat → Prop} {u v : World} (t : Tch T u v) {a : Option Addr} {n c : Nat} {l : List α} (hr : Rd E u a n c l) (hn : ∀ b o s, 0 < n → a = some ⟨b, o, s⟩ → ¬ T b) : Rd E v a n c l := by
  rcases Nat.eq_zero_or_pos n with h0 | h0
  · subst h0
    have hl := hr.len
    have h2 : l = [] := List.length_eq_zero_iff.1 hl
    subst h2
    exact Rd.zero _ _ _ _ (by first | exact hr.most | exact Nat.zero_le _)
  · exact hr.keep fun b o s e hb => t.block b hb (hn b o s h0 e)
/-- a flight as the document's network has it: its bytes may be told of elsewhere too -/
def RepR (w : World) (q : FD) (f : Fl) : Prop := q.at_ = f.at_ ∧ q.p.h = f.h ∧ Rd byteE w q.p.da q.p.dn q.p.dc f.d
/-- the document's network: block r; none of its blocks is of S -/
structure RefQ (w : World) (S : Nat → Prop) (r : Nat) (fa : Option Addr) (fn fc : Nat) (F : List Fate) (la : Option Addr) (ln lc : Nat) (FL : List FD) (L : List Fl) (c : Cn) : Prop where
  blk : Blk w r 75 (0, 0) [.slice fa fn fc, .slice la ln lc, .int .i64 c.sent, .int .i64 c.lost, .int .i64 c.forged, .int .i64 c.taken]
  fates : Rd fateE w fa fn fc F
  ls : Rd flE w la ln lc FL
  len : FL.length = L.length
  rep : ∀ (j : Nat) (q : FD) (f : Fl), FL[j]? = some q → L[j]? = some f → RepR w q f
  rn : ¬ S r
  fo : ∀ b o s, 0 < fn → fa = some ⟨b, o, s⟩ → ¬ S b ∧ b ≠ r
  lo : ∀ b o s, 0 < ln → la = some ⟨b, o, s⟩ → ¬ S b ∧ b ≠ r
  do_ : ∀ q ∈ FL, ∀ b o s, 0 < q.p.dn → q.p.da = some ⟨b, o, s⟩ → ¬ S b ∧ b ≠ r
theorem RefQ.tch {w w' : World} {S T S' : Nat → Prop} {r : Nat} {fa : Option Addr} {fn fc : Nat} {F : List Fate} {la : Option Addr} {ln lc : Nat} {FL : List FD} {L : List Fl} {c : Cn} (h : RefQ w S r fa fn fc F la ln lc FL L c) (t : Tch T w w') (hT : ∀ g, g < w.heap.size → T g → S g) (hS : ∀ g, g < w.heap.size → S' g → S g) : RefQ w' S' r fa fn fc F la ln lc FL L c where
  blk := t.blk h.blk (fun e => h.rn (hT r h.blk.lt e))
  fates := t.rdn h.fates (fun b o s h0 e => fun k => by
    obtain ⟨b1, o1, e1, hlt, _⟩ := h.fates.addr h0
    rw [e1] at e; cases e
    exact (h.fo _ _ _ h0 e1).1 (hT _ hlt k))
  ls := t.rdn h.ls (fun b o s h0 e => fun k => by
    obtain ⟨b1, o1, e1, hlt, _⟩ := h.ls.addr h0
    rw [e1] at e; cases e
    exact (h.lo _ _ _ h0 e1).1 (hT _ hlt k))
  len := h.len
  rep := fun j q f hq hf => ⟨(h.rep j q f hq hf).1, (h.rep j q f hq hf).2.1, t.rdn (h.rep j q f hq hf).2.2 (fun b o s h0 e => fun k => by
    obtain ⟨b1, o1, e1, hlt, _⟩ := (h.rep j q f hq hf).2.2.addr h0
    rw [e1] at e; cases e
    exact (h.do_ q (List.mem_of_getElem? hq) _ _ _ h0 e1).1 (hT _ hlt k))⟩
  rn := fun e => h.rn (hS r h.blk.lt e)
  fo := fun b o s h0 e => by
    obtain ⟨b1, o1, e1, hlt, _⟩ := h.fates.addr h0
    have e2 := e
    rw [e1] at e2; cases e2
    exact ⟨fun k => (h.fo _ _ _ h0 e1).1 (hS _ hlt k), (h.fo _ _ _ h0 e1).2⟩
  lo := fun b o s h0 e => by
    obtain ⟨b1, o1, e1, hlt, _⟩ := h.ls.addr h0
    have e2 := e
    rw [e1] at e2; cases e2
    exact ⟨fun k => (h.lo _ _ _ h0 e1).1 (hS _ hlt k), (h.lo _ _ _ h0 e1).2⟩
  do_ := fun q hq b o s h0 e => by
    obtain ⟨j, hj, rfl⟩ := List.getElem_of_mem hq
    have hr := (h.rep j FL[j] (L[j]'(by have := h.len; omega)) (List.getElem?_eq_getElem hj) (List.getElem?_eq_getElem _)).2.2
    obtain ⟨b1, o1, e1, hlt, _⟩ := hr.addr h0
    have e2 := e
    rw [e1] at e2; cases e2
    exact ⟨fun k => (h.do_ _ hq _ _ _ h0 e1).1 (hS _ hlt k), (h.do_ _ hq _ _ _ h0 e1).2⟩
/-- the document's network that bears the fates F, the flights L in the order in which they were laid -/
def RefP (w : World) (S : Nat → Prop) (r : Nat) (F : List Fate) (L : List Fl) (c : Cn) : Prop := ∃ fa fn fc la ln lc FL, RefQ w S r fa fn fc F la ln lc FL L c
theorem RefP.tch {w w' : World} {S T S' : Nat → Prop} {r : Nat} {F : List Fate} {L : List Fl} {c : Cn} (h : RefP w S r F L c) (t : Tch T w w') (hT : ∀ g, g < w.heap.size → T g → S g) (hS : ∀ g, g < w.heap.size → S' g → S g) : RefP w' S' r F L c := by
  obtain ⟨fa, fn, fc, la, ln, lc, FL, h⟩ := h
  exact ⟨fa, fn, fc, la, ln, lc, FL, h.tch t hT hS⟩
theorem RefP.ext {w w' : World} {S : Nat → Prop} {r : Nat} {F : List Fate} {L : List Fl} {c : Cn} (h : RefP w S r F L c) (hb : Below w.heap.size w w') : RefP w' S r F L c := h.tch (Tch.of_below (S := fun _ => False) hb) (fun _ _ e => e.elim) (fun _ _ e => e)
def RNewB (z : Nat) (S : Nat → Prop) (F : List Fate) (e : Ending) (w' : World) : Prop :=
  if newE F = 0 then ∃ p, e = .returned (.tuple #[.pointer (some ⟨p, 0, none⟩), .int .i64 0]) ∧ z ≤ p ∧ RefP w' S p F [] ⟨0, 0, 0, 0⟩ else e = .returned (.tuple #[.pointer none, .int .i64 (newE F)])
set_option maxHeartbeats 8000000 in
set_option maxRecDepth 100000 in
theorem rnew_any {w : World} {S : Nat → Prop} {a : Option Addr} {n c : Nat} {F : List Fate} (h : Rd fateE w a n c F) (hn : n ≤ 100000000000) (hS : ∀ b o s, 0 < n → a = some ⟨b, o, s⟩ → ¬ S b) (hSw : ∀ g, S g → g < w.heap.size) :
    Calls Try.prog 18 #[.slice a n c] w fun e w' => RNewB w.heap.size S F e w' ∧ Below w.heap.size w w' := by
  have hl := h.len
  have hH := Lib.hid h
  clear h
  by_cases hbig : 65536 < n
  · have hI : (65536 : Int) < n := by omega
    have hE : Hid (newE F = 3) := Lib.hid (by unfold newE; rw [hl, if_pos hbig])
    go_enter Try.func18, Try.ntmps18
    go_wp2_with fail
    refine bodyPost_ret (results_tmp2 rfl _ _ _) rfl ?_
    refine ⟨?_, Below.refl _ _⟩
    unfold RNewB
    rw [hE.out, if_neg (by decide)]
    rfl
  have hI : ¬ (65536 : Int) < n := by omega
  have hS' := Lib.hid hS
  have hSw' := Lib.hid hSw
  clear hS hSw
  go_enter Try.func18, Try.ntmps18
  go_wp2_with fail
  go_loopw [4] (fun i wr => ∃ k : Nat, k ≤ n ∧ i = .int .i64 k ∧ Hid (∀ f ∈ F.take k, mayF f = true) ∧ Hid (Below w.heap.size w wr)) (fun i _ => n - (intOf i).toNat)
  case atStart => exact ⟨0, Nat.zero_le _, rfl, Lib.hid (fun f hf => by simp at hf), Lib.hid (Below.refl _ _)⟩
  case round =>
    obtain ⟨k, hk, rfl, hall, hb⟩ := hrel
    by_cases hlt : k < n
    · have hkI : (k : Int) < n := by omega
      have hk0 : 0 ≤ (k : Int) := by omega
      have hkF : k < F.length := by omega
      obtain ⟨b, o, rfl, hbs, hc⟩ := rd_ft (hH.out.ext hb.out) (by omega)
      obtain ⟨c0, c1, c2⟩ := hc k hkF
      obtain ⟨f, hf⟩ : ∃ f, F[k] = f := ⟨_, rfl⟩
      rw [hf] at c0 c1 c2
      have hfk : Hid (F.take (k + 1) = F.take k ++ [f]) := Lib.hid (by rw [List.take_succ_eq_append_getElem hkF, hf])
      have hfm : Hid (f ∈ F) := Lib.hid (by rw [← hf]; exact List.getElem_mem _)
      clear hc hf
      obtain ⟨fa, fd, fm⟩ := f
      dsimp only at c0 c1 c2
      have hm := Lib.hid (rmay_any wr (fa, fd, fm))
      unfold ftV at hm
      go_wp2_with fail
      refine hm.out.mono ?_
      rintro e w4 ⟨rfl, hb4⟩
      have hb5 := Lib.hid (hb.out.trans (hb4.mono hb.out.size))
      clear hb4 hm c0 c1 c2
      cases hmay : mayF (fa, fd, fm) with
      | true =>
        have hall2 : Hid (∀ f ∈ F.take (k + 1), mayF f = true) := Lib.hid (fun f hf => by
          rw [hfk.out] at hf
          rcases List.mem_append.1 hf with hf | hf
          · exact hall.out f hf
          · have : f = (fa, fd, fm) := by simpa using hf
            rw [this]; exact hmay)
        clear hmay
        go_wp2_with fail
        go_roundw
        case rel => exact ⟨k + 1, by omega, by go_num, hall2, hb5⟩
        case measure => simp [intOf]; omega
      | false =>
        have hE : Hid (newE F = 2) := Lib.hid (by
          unfold newE
          rw [if_neg (by omega), if_neg]
          intro hall
          rw [List.all_eq_true] at hall
          rw [hall _ hfm.out] at hmay
          cases hmay)
        clear hmay
        go_wp2_with fail
        refine bodyPost_ret (results_tmp2 rfl _ _ _) rfl ?_
        refine ⟨?_, hb5.out⟩
        unfold RNewB
        rw [hE.out, if_neg (by decide)]
        rfl
    · have hk' : k = n := by omega
      subst hk'
      have hE : Hid (newE F = 0) := Lib.hid (by
        have := hall.out
        rw [List.take_of_length_le (by omega)] at this
        unfold newE
        rw [if_neg (by omega), if_pos (List.all_eq_true.2 this)])
      obtain ⟨W3, hW3⟩ : ∃ W, wr.alloc (.cells #[.slice a k c, .slice none 0 0, .int .i64 0, .int .i64 0, .int .i64 0, .int .i64 0] 75) = W := ⟨_, rfl⟩
      have B3 : Hid (Blk W3 wr.heap.size 75 (0, 0) [.slice a k c, .slice none 0 0, .int .i64 0, .int .i64 0, .int .i64 0, .int .i64 0]) := Lib.hid (by rw [← hW3]; exact Blk.new wr 75 (0, 0) #[.slice a k c, .slice none 0 0, .int .i64 0, .int .i64 0, .int .i64 0, .int .i64 0])
      have k3 : Hid (Below wr.heap.size wr W3) := Lib.hid (by rw [← hW3]; exact alloc_bel _ _)
      go_wp2_with fail
      try rw [hW3]
      refine bodyPost_ret (results_tmp2 rfl _ _ _) rfl ?_
      refine ⟨?_, hb.out.trans (k3.out.mono hb.out.size)⟩
      unfold RNewB
      rw [hE.out, if_pos rfl]
      have hz : (0 : Nat) ≤ maxLen := Nat.zero_le _
      exact ⟨_, rfl, hb.out.size, a, k, c, none, 0, 0, [], B3.out, (hH.out.ext hb.out).ext k3.out, Rd.zero _ _ _ _ (by first | exact hr.most | exact Nat.zero_le _), rfl, fun j q f hq => (by simp at hq), fun e => by have h1 := hSw'.out _ e; have h2 := hb.out.size; omega, fun b o s h0 e => ⟨hS'.out b o s h0 e, fun e2 => by obtain ⟨b1, o1, e1, hlt, _⟩ := hH.out.addr h0; rw [e1] at e; cases e; have := hb.out.size; omega⟩, fun b o s h0 => absurd h0 (by decide), fun q hq => (by cases hq)⟩
set_option maxHeartbeats 8000000 in
set_option maxRecDepth 100000 in
theorem wrong_any (w : World) (h : Hd) (da : Option Addr) {dn dc : Nat} (hdn : dn ≤ 140737488355328) (y : Int) :
    Calls Try.prog 43 #[pkV h (.slice da dn dc), .int .i64 y] w fun e w' => e = .returned (.int .i64 (chk dn y)) ∧ Below w.heap.size w w' := by
  obtain ⟨r, hr⟩ : ∃ r, chk dn y = r := ⟨_, rfl⟩
  rw [hr]
  unfold chk at hr
  unfold pkV
  obtain ⟨W1, hW1⟩ : ∃ W, w.alloc (.cells #[.int .u32 h.from_, .int .u16 h.fport, .int .u32 h.to_, .int .u16 h.tport, .bool h.stream, .slice da dn dc] 32) = W := ⟨_, rfl⟩
  have B1 : Hid (Blk W1 w.heap.size 32 (0, 0) [.int .u32 h.from_, .int .u16 h.fport, .int .u32 h.to_, .int .u16 h.tport, .bool h.stream, .slice da dn dc]) := Lib.hid (by rw [← hW1]; exact Blk.new w 32 (0, 0) #[.int .u32 h.from_, .int .u16 h.fport, .int .u32 h.to_, .int .u16 h.tport, .bool h.stream, .slice da dn dc])
  have k1 : Hid (Below w.heap.size w W1) := Lib.hid (by rw [← hW1]; exact alloc_bel _ _)
  have p5 : W1.cell? ⟨w.heap.size, 5, none⟩ = some (.slice da dn dc) := (B1.out.cell 5).trans rfl
  by_cases h1 : 65535 < dn
  · rw [if_pos h1] at hr
    subst hr
    have h1' : (65535 : Int) < dn := by omega
    go_enter Try.func43, Try.ntmps43
    go_wp2_with fail
    try rw [hW1]
    go_ret
    exact ⟨rfl, k1.out⟩
  have h1' : ¬ (65535 : Int) < dn := by omega
  rw [if_neg h1] at hr
  by_cases h2 : y < 0
  · rw [if_pos (.inl h2)] at hr
    subst hr
    go_enter Try.func43, Try.ntmps43
    go_wp2_with fail
    try rw [hW1]
    go_ret
    exact ⟨rfl, k1.out⟩
  by_cases h3 : 1099511627776 < y
  · rw [if_pos (.inr h3)] at hr
    subst hr
    go_enter Try.func43, Try.ntmps43
    go_wp2_with fail
    try rw [hW1]
    go_ret
    exact ⟨rfl, k1.out⟩
  rw [if_neg (by omega)] at hr
  subst hr
  go_enter Try.func43, Try.ntmps43
  go_wp2_with fail
  try rw [hW1]
  go_ret
  exact ⟨rfl, k1.out⟩
end Go.Proofs.Ythdnbipfdahnlaa
