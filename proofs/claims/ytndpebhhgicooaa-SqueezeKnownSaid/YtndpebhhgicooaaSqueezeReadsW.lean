/- The law SqueezeReads, walked. -/
import Derived.Test.YtndpebhhgicooaaSqP
import Derived.Test.YtndpebhhgicooaaKitC
import Derived.Test.YtndpebhhgicooaaOpenB
namespace Go.Proofs.Ytndpebhhgicooaa
open Go Go.RowKit
def resL (l : List UInt8) (back : Bool) (p : Int) : Nm × Int × Int := if p < 0 ∨ (l.length : Int) < p then ([], 0, 2) else match rdF l back p.toNat p.toNat (-1) [] with
  | none => ([], 0, 8)
  | some (n, q) => (n, q, 0)
def Ans (e : Ending) (w' : World) (base : Nat) (L : Nm) (q k : Int) : Prop := ∃ v, e = .returned (.tuple #[v, .int .i64 q, .int .i64 k]) ∧ OwnT 63 w' base v L
theorem Out.ans {e : Ending} {w' : World} {base : Nat} {l : List UInt8} {back : Bool} {p : Nat} {L : Nm} {q k : Int} (h : Out e w' base (rdF l back p p (-1) [])) (hp : p ≤ l.length) (hr : resL l back p = (L, q, k)) : Ans e w' base L q k := by
  unfold resL at hr
  rw [if_neg (by omega), Int.toNat_natCast] at hr
  cases hx : rdF l back p p (-1) [] with
  | none =>
    rw [hx] at h hr
    cases hr
    exact ⟨.slice none 0 0, h, OwnT.nil _ _ _⟩
  | some x =>
    obtain ⟨n, y⟩ := x
    rw [hx] at h hr
    cases hr
    exact h
set_option maxHeartbeats 4000000 in
set_option maxRecDepth 100000 in
theorem prog_all {w : World} {a : Option Addr} {n c : Nat} {l : List UInt8} (h : Rd byteE w a n c l) (hn : n ≤ 30000) (p : Int) (back : Bool) {L : Nm} {q k : Int} (hr : resL l back p = (L, q, k)) :
    Calls Try.prog 10 #[.slice a n c, .int .i64 p, .bool back] w fun e w' => Ans e w' w.heap.size L q k ∧ Below w.heap.size w w' := by
  have hl := h.len
  by_cases h0 : p < 0
  · have e2 : resL l back p = ([], 0, 2) := by unfold resL; rw [if_pos (.inl h0)]
    rw [e2] at hr
    cases hr
    clear h
    go_enter Try.func10, Try.ntmps10
    go_wp2_with fail
    go_step3
    go_wp2_with fail
    try rw [Exit.noGoto_ret]
    refine bodyPost_ret (results_tmp3 rfl _ _ _) rfl ?_
    exact ⟨⟨_, rfl, OwnT.nil _ _ _⟩, Below.refl _ _⟩
  · by_cases h1 : (n : Int) < p
    · have e2 : resL l back p = ([], 0, 2) := by unfold resL; rw [if_pos (.inr (by omega))]
      rw [e2] at hr
      cases hr
      clear h
      go_enter Try.func10, Try.ntmps10
      go_wp2_with fail
      go_step3
      go_wp2_with fail
      try rw [Exit.noGoto_ret]
      refine bodyPost_ret (results_tmp3 rfl _ _ _) rfl ?_
      exact ⟨⟨_, rfl, OwnT.nil _ _ _⟩, Below.refl _ _⟩
    · obtain ⟨m, rfl⟩ : ∃ m : Nat, p = (m : Int) := ⟨p.toNat, by omega⟩
      exact (prog_rd h hn m (by omega) back).mono fun e w' hx => ⟨hx.1.ans (by omega) hr, hx.2⟩
set_option maxHeartbeats 4000000 in
set_option maxRecDepth 100000 in
theorem ref_all {w : World} {a : Option Addr} {n c : Nat} {l : List UInt8} (h : Rd byteE w a n c l) (hn : n ≤ 30000) (p : Int) (back : Bool) {L : Nm} {q k : Int} (hr : resL l back p = (L, q, k)) :
    Calls Try.prog 11 #[.slice a n c, .int .i64 p, .bool back] w fun e w' => Ans e w' w.heap.size L q k ∧ Below w.heap.size w w' := by
  have hl := h.len
  by_cases h0 : p < 0
  · have e2 : resL l back p = ([], 0, 2) := by unfold resL; rw [if_pos (.inl h0)]
    rw [e2] at hr
    cases hr
    clear h
    go_enter Try.func11, Try.ntmps11
    go_wp2_with fail
    refine bodyPost_ret (results_tmp3 rfl _ _ _) rfl ?_
    exact ⟨⟨_, rfl, OwnT.nil _ _ _⟩, Below.refl _ _⟩
  · by_cases h1 : (n : Int) < p
    · have e2 : resL l back p = ([], 0, 2) := by unfold resL; rw [if_pos (.inr (by omega))]
      rw [e2] at hr
      cases hr
      clear h
      go_enter Try.func11, Try.ntmps11
      go_wp2_with fail
      refine bodyPost_ret (results_tmp3 rfl _ _ _) rfl ?_
      exact ⟨⟨_, rfl, OwnT.nil _ _ _⟩, Below.refl _ _⟩
    · obtain ⟨m, rfl⟩ : ∃ m : Nat, p = (m : Int) := ⟨p.toNat, by omega⟩
      exact (ref_rd h hn m (by omega) back).mono fun e w' hx => ⟨hx.1.ans (by omega) hr, hx.2⟩
set_option maxHeartbeats 8000000 in
set_option maxRecDepth 100000 in
theorem squeezeReads_walk {W : World} {a : Option Addr} {n c : Nat} {l : List UInt8} (h : Rd byteE W a n c l) (p : Int) (back : Bool) :
    Calls Try.prog 3 #[.slice a n c, .int .i64 p, .bool back] W fun e w' => e = .returned (.bool true) ∧ Below W.heap.size W w' := by
  have hl := h.len
  subst hl
  have hH := Lib.hid h; clear h
  by_cases h20 : l.length ≤ 20000
  · have h20I : ¬ (20000 : Int) < l.length := by omega
    obtain ⟨L, q, k, hr⟩ : ∃ L q k, resL l back p = (L, q, k) := ⟨_, _, _, rfl⟩
    have hr' := Lib.hid hr
    clear hr
    go_enter Try.func3, Try.ntmps3
    go_wp2_with fail
    refine (lent_bytes hH.out (by omega)).mono ?_
    rintro e w1 ⟨rfl, hB1, hb1⟩
    have hin : Rd byteE w1 (some ⟨W.heap.size, 0, none⟩) (l.length + 3) (l.length + 3) (lentL l) := rd_blk (E := byteE) (by rw [rowOf_byte]; exact hB1) _ (by rw [lentL_length]) (by unfold maxLen; omega)
    have hin0 : Rd byteE w1 (some ⟨W.heap.size, 0, none⟩) l.length (l.length + 3) l := by
      have := hin.cut 0 l.length (l.length + 3) (Nat.zero_le _) (by omega) (by omega) (Nat.le_refl _)
      have e1 : ((lentL l).take l.length).drop 0 = l := by rw [List.drop_zero, lentL, List.take_left' rfl]
      rw [e1] at this
      simpa [show l.length + 3 ≠ 0 by omega, Addr.add] using this
    have hin' := Lib.hid hin; clear hin
    have hin0' := Lib.hid hin0; clear hin0
    have hB1' := Lib.hid hB1
    have hz1 : Hid (W.heap.size < w1.heap.size) := Lib.hid hB1.lt
    have hb1' := Lib.hid hb1
    clear hB1 hb1
    go_wp2_with fail
    refine (prog_all hin0'.out (by omega) p back hr'.out).mono ?_
    rintro e w2 ⟨⟨v1, rfl, ho1⟩, hb2⟩
    have ho1' := Lib.hid ho1
    have hb2' := Lib.hid hb2
    have hin2 := Lib.hid (hin0'.out.ext hb2)
    clear ho1 hb2
    go_wp2_with fail
    refine (prog_all hin2.out (by omega) p back hr'.out).mono ?_
    rintro e w3 ⟨⟨v2, rfl, ho2⟩, hb3⟩
    have ho2' := Lib.hid ho2
    have hb3' := Lib.hid hb3
    have hW3 := Lib.hid ((hb1'.out.trans (hb2'.out.mono hb1'.out.size)).trans (hb3.mono (by have := hb1'.out.size; have := hb2'.out.size; omega)))
    clear ho2 hb3 hin2
    go_wp2_with fail
    refine (ref_all (hH.out.ext hW3.out) (by omega) p back hr'.out).mono ?_
    rintro e w4 ⟨⟨v3, rfl, ho3⟩, hb4⟩
    have hW4 := Lib.hid (hW3.out.trans (hb4.mono hW3.out.size))
    have h14 := Lib.hid ((hb2'.out.trans (hb3'.out.mono hb2'.out.size)).trans (hb4.mono (by have := hb2'.out.size; have := hb3'.out.size; omega)))
    have p1 := ho1'.out.own.ext (hb3'.out.trans (hb4.mono hb3'.out.size))
    have p2 := ho2'.out.own.ext hb4
    have p3 := ho3.own
    have l1 := Lib.hid ho1'.out.own.lt
    have l2 := Lib.hid ho2'.out.own.lt
    have l3 := Lib.hid ho3.own.lt
    have ov1 : OvT 63 w4 w1.heap.size v1 := (ho1'.out.ov).keep (hb3'.out.trans (hb4.mono hb3'.out.size))
    have ov1' := Lib.hid ov1
    have s2 : Hid (w1.heap.size ≤ w2.heap.size ∧ w2.heap.size ≤ w3.heap.size ∧ w3.heap.size ≤ w4.heap.size) := Lib.hid ⟨hb2'.out.size, hb3'.out.size, hb4.size⟩
    clear ho1' ho2' ho3 hb2' hb3' hb4 hW3 ov1
    obtain ⟨a1, c1, rfl, q1⟩ := p1.rd
    obtain ⟨a2, c2, rfl, q2⟩ := p2.rd
    obtain ⟨a3, c3, rfl, q3⟩ := p3.rd
    have q1' := Lib.hid q1
    have q3' := Lib.hid q3
    have p2' := Lib.hid p2
    have p3' := Lib.hid p3
    clear p1 p2 p3 q1 q2 q3
    go_wp2_with fail
    refine (same_name q1'.out q3'.out).mono ?_
    rw [beq_self_eq_true]
    rintro e w5 ⟨rfl, hb5⟩
    have hW5 := Lib.hid (hW4.out.trans (hb5.mono hW4.out.size))
    have hin5 := Lib.hid (hin'.out.ext (h14.out.trans (hb5.mono h14.out.size)))
    have hb5' := Lib.hid hb5
    clear hb5
    go_wp2_with (go_at_call 13; refine (kept_bytes hin5.out (by omega) (hH.out.ext hW5.out) (by omega) rfl).mono ?_; rintro e w6 ⟨rfl, hb6⟩; rw [beq_self_eq_true]; have hb6' := Lib.hid hb6; clear hb6)
    have b46 := hb5'.out.trans (hb6'.out.mono hb5'.out.size)
    have ov6 := ov1'.out.keep b46
    have p26 := p2'.out.ext b46
    have p36 := p3'.out.ext b46
    have hB6 : Blk w6 W.heap.size 5 (0, 0) (u8s (lentL l)) := (hB1'.out.below h14.out hz1.out).below b46 (by have := hz1.out; have := h14.out.size; omega)
    have hW6 := hW5.out.trans (hb6'.out.mono hW5.out.size)
    refine (over_texts (by decide) ov6).mono ?_
    rintro e w7 ⟨rfl, _, hg7, _⟩
    have k7 : ∀ j, j < w6.heap.size → (j < w1.heap.size ∨ w2.heap.size ≤ j) → w7.heap[j]? = w6.heap[j]? := fun j hj hne => hg7.block j hj (fun e => by have := l1.out j e.symm; omega)
    have hB7 : Blk w7 W.heap.size 5 (0, 0) (u8s (lentL l)) := (k7 W.heap.size hB6.lt (.inl hz1.out)).trans hB6
    have p27 := p26.keep (fun j hj => k7 j (p26.lt j hj).2 (.inr (by have := l2.out j hj; have := s2.out; omega)))
    have p37 := p36.keep (fun j hj => k7 j (p36.lt j hj).2 (.inr (by have := l3.out j hj; have := s2.out; omega)))
    have hW7 := Lib.hid (hW6.grown hg7 hW6.size (fun j hj => by have := l1.out j hj; have := hz1.out; omega))
    have hB7' := Lib.hid hB7
    have p27' := Lib.hid p27
    have p37' := Lib.hid p37
    clear b46 ov6 p26 p36 hB6 hW6 hg7 k7 hB7 p27 p37
    go_wp2_with fail
    refine (over_bytes (C1 := []) (C2 := []) (X := lentL l) (by simpa using hB7'.out) rfl (lentL_length l) (by omega) (by omega) (fun j _ => by simp)).mono ?_
    rintro e w8 ⟨rfl, _, hg8⟩
    have p28 := p27'.out.keep (fun j hj => hg8.block j (p27'.out.lt j hj).2 (fun e => by have h9 := Option.some.inj e; have := l2.out j hj; have := s2.out; have := hz1.out; omega))
    have p38 := p37'.out.keep (fun j hj => hg8.block j (p37'.out.lt j hj).2 (fun e => by have h9 := Option.some.inj e; have := l3.out j hj; have := s2.out; have := hz1.out; omega))
    have hW8 := Lib.hid (hW7.out.grown hg8 hW7.out.size (fun j hj => by cases hj; exact Nat.le_refl _))
    obtain ⟨a2', c2', e2, q2⟩ := p28.rd
    obtain ⟨a3', c3', e3, q3⟩ := p38.rd
    cases e2
    cases e3
    have q2' := Lib.hid q2
    have q3'' := Lib.hid q3
    clear p28 p38 hg8 q2 q3
    go_wp2_with fail
    refine (same_name q2'.out q3''.out).mono ?_
    rw [beq_self_eq_true]
    rintro e w9 ⟨rfl, hb9⟩
    have hW9 := Lib.hid (hW8.out.trans (hb9.mono hW8.out.size))
    clear hb9
    go_wp2_with fail
    go_ret
    exact ⟨rfl, hW9.out⟩
  · have h20I : (20000 : Int) < l.length := by omega
    go_enter Try.func3, Try.ntmps3
    go_wp2_with fail
    go_ret
    exact ⟨rfl, Below.refl _ _⟩
theorem squeezeReads_law {W : World} (a : Option Addr) (n c : Nat) (l : List UInt8) (hb : RB W a n c l) (x : Int) (_ : (Lit.int .i64 x).wf = true) (back : Bool) (_ : World) :
    Calls Try.prog 3 #[.slice a n c, .int .i64 x, .bool back] W fun e w' => e = .returned (.bool true) ∧ Below W.heap.size W w' := squeezeReads_walk hb.rd x back
end Go.Proofs.Ytndpebhhgicooaa
