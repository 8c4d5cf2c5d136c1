/- The program's network: may 22, New 9, Send 14. Printed by gen_ntg.py. -/
import Derived.Test.YthdnbipfdahnlaaNtF
namespace Go.Proofs.Ythdnbipfdahnlaa
open Go Go.RowKit
def ftV (f : Fate) : Value := .agg #[.int .i64 f.1, .int .i64 f.2.1, .int .i64 f.2.2]
/-- may a fate be? -/
def mayF (f : Fate) : Bool :=
  if f.2.1 < 0 ∨ 86400 < f.2.1 then false else if f.1 = 0 ∨ f.1 = 1 then decide (f.2.2 = 0) else if f.1 = 2 then decide (0 ≤ f.2.2 ∧ f.2.2 ≤ 86400) else if f.1 = 3 then decide (0 ≤ f.2.2 ∧ f.2.2 < 524280) else false
set_option maxHeartbeats 8000000 in
set_option maxRecDepth 100000 in
theorem may_any (w : World) (f : Fate) : Calls Try.prog 22 #[ftV f] w fun e w' => e = .returned (.bool (mayF f)) ∧ Below w.heap.size w w' := by
  obtain ⟨a, d, m⟩ := f
  unfold ftV
  dsimp only
  obtain ⟨r, hr⟩ : ∃ r, mayF (a, d, m) = r := ⟨_, rfl⟩
  rw [hr]
  unfold mayF at hr
  dsimp only at hr
  obtain ⟨W1, hW1⟩ : ∃ W, w.alloc (.cells #[.int .i64 a, .int .i64 d, .int .i64 m] 51) = W := ⟨_, rfl⟩
  have B1 : Hid (Blk W1 w.heap.size 51 (0, 0) [.int .i64 a, .int .i64 d, .int .i64 m]) := Lib.hid (by rw [← hW1]; exact Blk.new w 51 (0, 0) #[.int .i64 a, .int .i64 d, .int .i64 m])
  have k1 : Hid (Below w.heap.size w W1) := Lib.hid (by rw [← hW1]; exact alloc_bel _ _)
  have p0 : W1.cell? ⟨w.heap.size, 0, none⟩ = some (.int .i64 a) := (B1.out.cell 0).trans rfl
  have p1 : W1.cell? ⟨w.heap.size, 1, none⟩ = some (.int .i64 d) := (B1.out.cell 1).trans rfl
  have p2 : W1.cell? ⟨w.heap.size, 2, none⟩ = some (.int .i64 m) := (B1.out.cell 2).trans rfl
  by_cases h1 : d < 0
  · rw [if_pos (.inl h1)] at hr
    skip
    have hr' := Lib.hid hr
    clear hr
    go_enter Try.func22, Try.ntmps22
    go_wp2_with fail
    try rw [hW1]
    go_ret
    exact ⟨by rw [← hr'.out]; first | rfl | (simp; done) | (simp; assumption), k1.out⟩
  by_cases h2 : 86400 < d
  · rw [if_pos (.inr h2)] at hr
    skip
    have hr' := Lib.hid hr
    clear hr
    go_enter Try.func22, Try.ntmps22
    go_wp2_with fail
    try rw [hW1]
    go_ret
    exact ⟨by rw [← hr'.out]; first | rfl | (simp; done) | (simp; assumption), k1.out⟩
  rw [if_neg (by omega)] at hr
  by_cases h3 : a = 0
  · rw [if_pos (.inl h3)] at hr
    subst h3
    by_cases h4 : m = 0
    · subst h4
      skip
      have hr' := Lib.hid hr
      clear hr
      go_enter Try.func22, Try.ntmps22
      go_wp2_with fail
      try rw [hW1]
      go_ret
      exact ⟨by rw [← hr'.out]; first | rfl | (simp; done) | (simp; assumption), k1.out⟩
    · rw [decide_eq_false h4] at hr
      skip
      have hr' := Lib.hid hr
      clear hr
      go_enter Try.func22, Try.ntmps22
      go_wp2_with fail
      try rw [hW1]
      go_ret
      exact ⟨by rw [← hr'.out]; first | rfl | (simp; done) | (simp; assumption), k1.out⟩
  by_cases h5 : a = 1
  · rw [if_pos (.inr h5)] at hr
    subst h5
    by_cases h4 : m = 0
    · subst h4
      skip
      have hr' := Lib.hid hr
      clear hr
      go_enter Try.func22, Try.ntmps22
      go_wp2_with fail
      try rw [hW1]
      go_ret
      exact ⟨by rw [← hr'.out]; first | rfl | (simp; done) | (simp; assumption), k1.out⟩
    · rw [decide_eq_false h4] at hr
      skip
      have hr' := Lib.hid hr
      clear hr
      go_enter Try.func22, Try.ntmps22
      go_wp2_with fail
      try rw [hW1]
      go_ret
      exact ⟨by rw [← hr'.out]; first | rfl | (simp; done) | (simp; assumption), k1.out⟩
  rw [if_neg (by omega)] at hr
  by_cases h8 : a = 2
  · rw [if_pos h8] at hr
    subst h8
    by_cases g1 : 0 ≤ m
    · by_cases g2 : m ≤ 86400
      · rw [decide_eq_true (And.intro g1 g2)] at hr
        skip
        have hr' := Lib.hid hr
        clear hr
        go_enter Try.func22, Try.ntmps22
        go_wp2_with fail
        try rw [hW1]
        go_ret
        exact ⟨by rw [← hr'.out]; first | rfl | (simp; done) | (simp; assumption), k1.out⟩
      · rw [decide_eq_false (fun h => g2 h.2)] at hr
        skip
        have hr' := Lib.hid hr
        clear hr
        go_enter Try.func22, Try.ntmps22
        go_wp2_with fail
        try rw [hW1]
        go_ret
        exact ⟨by rw [← hr'.out]; first | rfl | (simp; done) | (simp; assumption), k1.out⟩
    · rw [decide_eq_false (fun h => g1 h.1)] at hr
      skip
      have hr' := Lib.hid hr
      clear hr
      go_enter Try.func22, Try.ntmps22
      go_wp2_with fail
      try rw [hW1]
      go_ret
      exact ⟨by rw [← hr'.out]; first | rfl | (simp; done) | (simp; assumption), k1.out⟩
  rw [if_neg h8] at hr
  by_cases h9 : a = 3
  · rw [if_pos h9] at hr
    subst h9
    by_cases g1 : 0 ≤ m
    · by_cases g2 : m < 524280
      · rw [decide_eq_true (And.intro g1 g2)] at hr
        skip
        have hr' := Lib.hid hr
        clear hr
        go_enter Try.func22, Try.ntmps22
        go_wp2_with fail
        try rw [hW1]
        go_ret
        exact ⟨by rw [← hr'.out]; first | rfl | (simp; done) | (simp; assumption), k1.out⟩
      · rw [decide_eq_false (fun h => g2 h.2)] at hr
        skip
        have hr' := Lib.hid hr
        clear hr
        go_enter Try.func22, Try.ntmps22
        go_wp2_with fail
        try rw [hW1]
        go_ret
        exact ⟨by rw [← hr'.out]; first | rfl | (simp; done) | (simp; assumption), k1.out⟩
    · rw [decide_eq_false (fun h => g1 h.1)] at hr
      skip
      have hr' := Lib.hid hr
      clear hr
      go_enter Try.func22, Try.ntmps22
      go_wp2_with fail
      try rw [hW1]
      go_ret
      exact ⟨by rw [← hr'.out]; first | rfl | (simp; done) | (simp; assumption), k1.out⟩
  rw [if_neg h9] at hr
  skip
  have hr' := Lib.hid hr
  clear hr
  go_enter Try.func22, Try.ntmps22
  go_wp2_with fail
  try rw [hW1]
  go_ret
  exact ⟨by rw [← hr'.out]; first | rfl | (simp; done) | (simp; assumption), k1.out⟩
theorem rd_ft {w : World} {a : Option Addr} {n c : Nat} {l : List Fate} (h : Rd fateE w a n c l) (h0 : 0 < n) : ∃ b o, a = some ⟨b, o, none⟩ ∧ b < w.heap.size ∧ ∀ j (hj : j < l.length), w.cell? ⟨b, o + j * 3, none⟩ = some (.int .i64 l[j].1) ∧ w.cell? ⟨b, o + j * 3 + 1, none⟩ = some (.int .i64 l[j].2.1) ∧ w.cell? ⟨b, o + j * 3 + 2, none⟩ = some (.int .i64 l[j].2.2) := by
  obtain ⟨b, o, h1, h2, h3⟩ := h.addr h0
  exact ⟨b, o, h1, h2, fun j hj => ⟨h3 j hj 0 (by decide), h3 j hj 1 (by decide), h3 j hj 2 (by decide)⟩⟩
/-- what New answers -/
def newE (F : List Fate) : Int := if 65536 < F.length then 3 else if F.all mayF then 0 else 2
def NewB (w : World) (F : List Fate) (e : Ending) (w' : World) : Prop :=
  if newE F = 0 then ∃ p, e = .returned (.tuple #[.pointer (some ⟨p, 0, none⟩), .int .i64 0]) ∧ NetP w' p (fun g => w.heap.size ≤ g) ⟨F, 0, [], ⟨0, 0, 0, 0⟩⟩ else e = .returned (.tuple #[.pointer none, .int .i64 (newE F)])
set_option maxHeartbeats 8000000 in
set_option maxRecDepth 100000 in
theorem new_any {w : World} {a : Option Addr} {n c : Nat} {F : List Fate} (h : Rd fateE w a n c F) (hn : n ≤ 100000000000) :
    Calls Try.prog 9 #[.slice a n c] w fun e w' => NewB w F e w' ∧ Below w.heap.size w w' := by
  have hl := h.len
  have hH := Lib.hid h
  clear h
  by_cases hbig : 65536 < n
  · have hI : (65536 : Int) < n := by omega
    have hE : Hid (newE F = 3) := Lib.hid (by unfold newE; rw [hl, if_pos hbig])
    go_enter Try.func9, Try.ntmps9
    go_wp2_with fail
    refine bodyPost_ret (results_tmp2 rfl _ _ _) rfl ?_
    refine ⟨?_, Below.refl _ _⟩
    unfold NewB
    rw [hE.out, if_neg (by decide)]
    rfl
  have hI : ¬ (65536 : Int) < n := by omega
  go_enter Try.func9, Try.ntmps9
  go_wp2_with fail
  go_loopw [11] (fun i wr => ∃ k : Nat, k ≤ n ∧ i = .int .i64 k ∧ Hid (∀ f ∈ F.take k, mayF f = true) ∧ Hid (Below w.heap.size w wr)) (fun i _ => n - (intOf i).toNat)
  case atStart => exact ⟨0, Nat.zero_le _, rfl, Lib.hid (fun f hf => by simp at hf), Lib.hid (Below.refl _ _)⟩
  case round =>
    obtain ⟨k, hk, rfl, hall, hb⟩ := hrel
    by_cases hlt : k < n
    · have hkI : (k : Int) < n := by omega
      have hk0 : 0 ≤ (k : Int) := by omega
      have hkF : k < F.length := by omega
      obtain ⟨b, o, rfl, hbs, hc⟩ := rd_ft (hH.out.ext hb.out) (by omega)
      obtain ⟨c0, c1, c2⟩ := hc k hkF
      obtain ⟨f, hf⟩ : ∃ f, F[k] = f := ⟨_, rfl⟩
      rw [hf] at c0 c1 c2
      have hfk : Hid (F.take (k + 1) = F.take k ++ [f]) := Lib.hid (by rw [List.take_succ_eq_append_getElem hkF, hf])
      have hfm : Hid (f ∈ F) := Lib.hid (by rw [← hf]; exact List.getElem_mem _)
      clear hc hf
      obtain ⟨fa, fd, fm⟩ := f
      dsimp only at c0 c1 c2
      obtain ⟨W2, hW2⟩ : ∃ W, wr.alloc (.cells #[.int .i64 0, .int .i64 0, .int .i64 0] 51) = W := ⟨_, rfl⟩
      have B2 : Hid (Blk W2 wr.heap.size 51 (0, 0) [.int .i64 0, .int .i64 0, .int .i64 0]) := Lib.hid (by rw [← hW2]; exact Blk.new wr 51 (0, 0) #[.int .i64 0, .int .i64 0, .int .i64 0])
      have k2 : Hid (Below wr.heap.size wr W2) := Lib.hid (by rw [← hW2]; exact alloc_bel _ _)
      go_upto_region 6 with (refine store_whole rfl 51 (.tmp 5) (.tmp 14) rfl rfl rfl B2.out (by rfl) (by kernel_rfl) (by kernel_rfl) ?_; intro w3 hBx hgx hzx; have R3 := Lib.hid hBx; have k3 := Lib.hid (fresh_store k2.out hgx); clear hBx hgx hzx)
      have d0 : w3.cell? ⟨wr.heap.size, 0, none⟩ = some (.int .i64 fa) := (R3.out.cell 0).trans rfl
      have d1 : w3.cell? ⟨wr.heap.size, 1, none⟩ = some (.int .i64 fd) := (R3.out.cell 1).trans rfl
      have d2 : w3.cell? ⟨wr.heap.size, 2, none⟩ = some (.int .i64 fm) := (R3.out.cell 2).trans rfl
      have hm := Lib.hid (may_any w3 (fa, fd, fm))
      unfold ftV at hm
      clear c0 c1 c2 hW2 B2 k2
      go_wp2_with fail
      refine hm.out.mono ?_
      rintro e w4 ⟨rfl, hb4⟩
      have hb5 := Lib.hid (hb.out.trans ((k3.out.trans (hb4.mono k3.out.size)).mono hb.out.size))
      clear hb4 hm d0 d1 d2
      cases hmay : mayF (fa, fd, fm) with
      | true =>
        have hall2 : Hid (∀ f ∈ F.take (k + 1), mayF f = true) := Lib.hid (fun f hf => by
          rw [hfk.out] at hf
          rcases List.mem_append.1 hf with hf | hf
          · exact hall.out f hf
          · have : f = (fa, fd, fm) := by simpa using hf
            rw [this]; exact hmay)
        clear hmay
        go_wp2_with fail
        go_roundw
        case rel => exact ⟨k + 1, by omega, by go_num, hall2, hb5⟩
        case measure => simp [intOf]; omega
      | false =>
        have hE : Hid (newE F = 2) := Lib.hid (by
          unfold newE
          rw [if_neg (by omega), if_neg]
          intro hall
          rw [List.all_eq_true] at hall
          rw [hall _ hfm.out] at hmay
          cases hmay)
        clear hmay
        go_wp2_with fail
        refine bodyPost_ret (results_tmp2 rfl _ _ _) rfl ?_
        refine ⟨?_, hb5.out⟩
        unfold NewB
        rw [hE.out, if_neg (by decide)]
        rfl
    · have hk' : k = n := by omega
      subst hk'
      have hE : Hid (newE F = 0) := Lib.hid (by
        have := hall.out
        rw [List.take_of_length_le (by omega)] at this
        unfold newE
        rw [if_neg (by omega), if_pos (List.all_eq_true.2 this)])
      have hcl := Lib.hid (clone_fates (hH.out.ext hb.out) (by omega))
      go_wp2_with fail
      refine hcl.out.mono ?_
      rintro e w2 ⟨⟨a', c', rfl, ho⟩, hb2⟩
      have hb3 := Lib.hid (hb.out.trans (hb2.mono hb.out.size))
      have ho' := Lib.hid ho
      have hsz : Hid (w.heap.size ≤ wr.heap.size) := Lib.hid hb.out.size
      clear hb2 ho hcl
      obtain ⟨W3, hW3⟩ : ∃ W, w2.alloc (.cells #[.slice a' k c', .int .i64 0, .slice none 0 0, .int .i64 0, .int .i64 0, .int .i64 0, .int .i64 0, .bool true] 63) = W := ⟨_, rfl⟩
      have B3 : Hid (Blk W3 w2.heap.size 63 (0, 0) [.slice a' k c', .int .i64 0, .slice none 0 0, .int .i64 0, .int .i64 0, .int .i64 0, .int .i64 0, .bool true]) := Lib.hid (by rw [← hW3]; exact Blk.new w2 63 (0, 0) #[.slice a' k c', .int .i64 0, .slice none 0 0, .int .i64 0, .int .i64 0, .int .i64 0, .int .i64 0, .bool true])
      have k3 : Hid (Below w2.heap.size w2 W3) := Lib.hid (by rw [← hW3]; exact alloc_bel _ _)
      go_wp2_with fail
      try rw [hW3]
      refine bodyPost_ret (results_tmp2 rfl _ _ _) rfl ?_
      refine ⟨?_, hb3.out.trans (k3.out.mono hb3.out.size)⟩
      unfold NewB
      rw [hE.out, if_pos rfl]
      refine ⟨_, rfl, a', k, c', .slice none 0 0, none, [], B3.out, ?_, OwnS.nil _ _, ⟨rfl, fun j q f hq => (by simp at hq), fun i j hij p q hp => (by simp at hp)⟩, hb3.out.size, fun g hg => ?_, fun g hg => (by cases hg), fun q hq => (by cases hq)⟩
      · exact (ho'.out.ext k3.out).mono (Nat.zero_le _)
      · exact Nat.le_trans hsz.out (ho'.out.lt g hg).1
end Go.Proofs.Ythdnbipfdahnlaa
