/- known 17 of two lists that are the same; awake 9. -/
import Derived.Test.YtjkeijjfjbcaiaaPkJ
namespace Go.Proofs.Ytjkeijjfjbcaiaa
open Go.RowKit
set_option maxHeartbeats 4000000 in
set_option maxRecDepth 100000 in
theorem known17 {w : World} {a b : Option Addr} {n c d : Nat} {L : List Kn} (hA : Rd knE w a n c L) (hB : Rd knE w b n d L) (hn : n ≤ 1000000) :
    Calls Try.prog 17 #[.slice a n c, .slice b n d] w fun e w' => e = .returned (.bool true) ∧ Below w.heap.size w w' := by
  have hl := hA.len
  have hA' := Lib.hid hA
  have hB' := Lib.hid hB
  clear hA hB
  go_enter Try.func17, Try.ntmps17
  go_wp2_with fail
  go_loopw [5] (fun i wr => ∃ k : Nat, k ≤ n ∧ i = .int .i64 k ∧ Below w.heap.size w wr) (fun i _ => n - (intOf i).toNat)
  case atStart => exact ⟨0, Nat.zero_le _, rfl, Below.refl _ _⟩
  case round =>
    obtain ⟨k, hk, rfl, hb⟩ := hrel
    by_cases hlt : k < n
    · have hkI : (k : Int) < n := by omega
      have hk0 : (0 : Int) ≤ k := by omega
      obtain ⟨b1, o1, rfl, _, hc⟩ := rd_kn (hA'.out.ext hb) (by omega)
      obtain ⟨b2, o2, rfl, _, hd⟩ := rd_kn (hB'.out.ext hb) (by omega)
      obtain ⟨c0, c1, c2, c3⟩ := hc k (by omega)
      obtain ⟨d0, d1, d2, d3⟩ := hd k (by omega)
      have hb2 := Lib.hid hb.drew
      clear hc hd hb
      generalize L[k]'(by omega) = x at *
      obtain ⟨xa, xt, xf, xg⟩ := x
      dsimp only at *
      go_wp2_with fail
      go_region
      go_wp2_with fail
      go_roundw
      case rel => exact ⟨k + 1, by omega, by go_num, hb2.out⟩
      case measure => simp [intOf]; omega
    · have hk' : k = n := by omega
      subst hk'
      go_wp2_with fail
      go_ret
      exact ⟨rfl, hb⟩
theorem rd_made {α : Type} (E : Enc α) (w : World) (C : Array Value) (l : List α) (n : Nat) (hC : C.toList = rowOf E l) (hn : n = l.length) (hm : n ≤ maxLen) : Rd E (w.alloc (.cells C E.e)) (some ⟨w.heap.size, 0, none⟩) n n l := by
  obtain ⟨a, c, e, h⟩ := (Own.made E w C l n hC hn hm).rd
  subst hn
  cases e
  exact h
theorem Hd.below {u w' w : World} {p : Nat} {x y : Value} (h : Hd w w' p x y) (hb : Below u.heap.size u w) (hp : u.heap.size ≤ p) (hx : ∀ b, x.ownBlock = some b → u.heap.size ≤ b) : Below u.heap.size u w' :=
  hb.trans (h.tch.below hb.size (fun b _ hs => by
    rcases hs with rfl | hs
    · exact hp
    · exact hx b hs))
theorem Hd.keeps {u w' w : World} {p : Nat} {x y : Value} (h : Hd w w' p x y) (hu : u.heap.size ≤ w.heap.size) (hx : ∀ b, x.ownBlock = some b → u.heap.size ≤ b) : ∀ b, y.ownBlock = some b → u.heap.size ≤ b := by
  intro b hb
  rcases h.own with e | ⟨b', hb', e⟩
  · exact hx b (by rw [← e]; exact hb)
  · rw [e] at hb; cases hb; omega
/-- a picker that was made since u -/
def PkU (u w : World) (p : Nat) (room : Int) (L : List Kn) : Prop := ∃ v, Pk w p room v L ∧ Below u.heap.size u w ∧ u.heap.size ≤ p ∧ ∀ b, v.ownBlock = some b → u.heap.size ≤ b
theorem PkU.below {u w : World} {p : Nat} {room : Int} {L : List Kn} (h : PkU u w p room L) : Below u.heap.size u w := by obtain ⟨_, _, h, _⟩ := h; exact h
theorem PkU.ext {u w w' : World} {p : Nat} {room : Int} {L : List Kn} (h : PkU u w p room L) (hb : Below w.heap.size w w') : PkU u w' p room L := by
  obtain ⟨v, h1, h2, h3, h4⟩ := h
  exact ⟨v, h1.ext hb, h2.trans (hb.mono h2.size), h3, h4⟩
theorem PkU.cell {u w : World} {p : Nat} {room : Int} {L : List Kn} (h : PkU u w p room L) : w.cell? ⟨p, 0, none⟩ = some (.int .i64 room) := by obtain ⟨v, h1, _⟩ := h; exact h1.blk.cell 0
theorem PkU.cast {u w : World} {p : Nat} {room : Int} {L L' : List Kn} (h : PkU u w p room L) (e : L = L') : PkU u w p room L' := e ▸ h
theorem PkU.hd {u w w' : World} {p : Nat} {room : Int} {v v' : Value} {L' : List Kn} (h2 : Below u.heap.size u w) (h3 : u.heap.size ≤ p) (h4 : ∀ b, v.ownBlock = some b → u.heap.size ≤ b) (hP : Pk w' p room v' L') (hH : Hd w w' p v v') : PkU u w' p room L' :=
  ⟨v', hP, hH.below h2 h3 h4, h3, hH.keeps h2.size h4⟩
section
variable {u w : World} {p : Nat} {room : Int} {L : List Kn}
theorem goodU (h : PkU u w p room L) (h1 : 1 ≤ room) (hl : L.length ≤ 100000) (hL : ∀ k ∈ L, KB k) (a trip now : Int) (ht : 0 ≤ trip) (hm : momB now = true) :
    Calls Try.prog 18 #[.pointer (some ⟨p, 0, none⟩), .int .u32 a, .int .i64 trip, .int .i64 now] w fun e w' => e = .returned (.int .i64 0) ∧ PkU u w' p room (hrd room L (knGood L a trip now)) := by
  obtain ⟨v, hP, h2, h3, h4⟩ := h
  refine (good18 hP h1 hl hL a trip now ht hm).mono ?_
  rintro e w' ⟨rfl, v', hP', hH⟩
  exact ⟨rfl, PkU.hd h2 h3 h4 hP' hH⟩
theorem badU (h : PkU u w p room L) (h1 : 1 ≤ room) (hl : L.length ≤ 100000) (hL : ∀ k ∈ L, KB k) (a now : Int) (hm : momB now = true) :
    Calls Try.prog 19 #[.pointer (some ⟨p, 0, none⟩), .int .u32 a, .int .i64 now] w fun e w' => e = .returned (.int .i64 0) ∧ PkU u w' p room (hrd room L (knBad L a now)) := by
  obtain ⟨v, hP, h2, h3, h4⟩ := h
  refine (bad19 hP h1 hl hL a now hm).mono ?_
  rintro e w' ⟨rfl, v', hP', hH⟩
  exact ⟨rfl, PkU.hd h2 h3 h4 hP' hH⟩
theorem lameU (h : PkU u w p room L) (h1 : 1 ≤ room) (hl : L.length ≤ 100000) (a now : Int) (hm : momB now = true) :
    Calls Try.prog 20 #[.pointer (some ⟨p, 0, none⟩), .int .u32 a, .int .i64 now] w fun e w' => e = .returned (.int .i64 0) ∧ PkU u w' p room (hrd room L (knLame L a now)) := by
  obtain ⟨v, hP, h2, h3, h4⟩ := h
  refine (lame20 hP h1 hl a now hm).mono ?_
  rintro e w' ⟨rfl, v', hP', hH⟩
  exact ⟨rfl, PkU.hd h2 h3 h4 hP' hH⟩
theorem chooseU (h : PkU u w p room L) (h1 : 1 ≤ room) (hl : L.length ≤ 100000) {a : Option Addr} {n c : Nat} {l : List Int} (hR : Rd u32E w a n c l) (now : Int) :
    Calls Try.prog 11 #[.pointer (some ⟨p, 0, none⟩), .slice a n c, .int .i64 now] w fun e w' => e = .returned (.tuple #[.int .u32 (chooseK L now l), .bool (decide (l.length ≠ 0))]) ∧ Below w.heap.size w w' ∧ PkU u w' p room L := by
  obtain ⟨v, hP, h2⟩ := id h
  refine (choose11 hP h1 hl hR now).mono ?_
  rintro e w' ⟨rfl, hb⟩
  exact ⟨rfl, hb, h.ext hb⟩
theorem waitU (h : PkU u w p room L) (h1 : 1 ≤ room) (hl : L.length ≤ 100000) (hL : ∀ k ∈ L, KB k) (a : Int) :
    Calls Try.prog 21 #[.pointer (some ⟨p, 0, none⟩), .int .u32 a] w fun e w' => e = .returned (.int .i64 (waitK L a)) ∧ Below w.heap.size w w' ∧ PkU u w' p room L := by
  obtain ⟨v, hP, h2⟩ := id h
  refine (wait21 hP h1 hl hL a).mono ?_
  rintro e w' ⟨rfl, hb⟩
  exact ⟨rfl, hb, h.ext hb⟩
theorem knownU (h : PkU u w p room L) (h1 : 1 ≤ room) (hl : L.length ≤ 100000) :
    Calls Try.prog 12 #[.pointer (some ⟨p, 0, none⟩)] w fun e w' => (∃ a c, e = .returned (.slice a L.length c) ∧ Rd knE w' a L.length c L) ∧ Below w.heap.size w w' ∧ PkU u w' p room L := by
  obtain ⟨v, hP, h2⟩ := id h
  refine (known12 hP h1 (by omega)).mono ?_
  rintro e w' ⟨⟨v', rfl, hO⟩, hb⟩
  obtain ⟨a, c, rfl, hR⟩ := hO.rd
  exact ⟨⟨a, c, rfl, hR⟩, hb, h.ext hb⟩
end
theorem newU (room : Int) (h1 : 1 ≤ room) (h2 : room ≤ 4096) (w : World) : Calls Try.prog 14 #[.int .i64 room] w fun e w' => e = .returned (.tuple #[.pointer (some ⟨w.heap.size, 0, none⟩), .int .i64 0]) ∧ PkU w w' w.heap.size room [] := by
  refine (new14 room h1 h2 w).mono ?_
  rintro e w' ⟨rfl, hP, hb⟩
  exact ⟨rfl, _, hP, hb, Nat.le_refl _, fun b h => by simp [Value.ownBlock] at h⟩
theorem al_below (w : World) (o : Obj) : Below w.heap.size w (w.alloc o) := (Below.refl _ _).alloc (Nat.le_refl _) _
theorem kb_one (k : Kn) (h : KB k) : ∀ x ∈ [k], KB x := fun x hx => by rw [List.mem_singleton.1 hx]; exact h
set_option maxHeartbeats 8000000 in
set_option maxRecDepth 100000 in
theorem awake9 (w : World) : Calls Try.prog 9 #[] w fun e w' => e = .returned (.bool true) ∧ Below w.heap.size w w' := by
  have L1 : hrd 2 [] (knGood [] 2 80 0) = [⟨2, 80, 0, 0⟩] := by decide
  have L2 : hrd 2 [⟨2, 80, 0, 0⟩] (knGood [⟨2, 80, 0, 0⟩] 2 160 1) = [⟨2, 90, 0, 1⟩] := by decide
  have C1 : chooseK [] 0 [1, 2] = 1 := by decide
  have C2 : chooseK [⟨2, 80, 0, 0⟩] 0 [1, 2] = 2 := by decide
  go_enter Try.func9, Try.ntmps9
  go_wp2_with fail
  refine (newU 2 (by decide) (by decide) w).mono ?_
  rintro e w1 ⟨rfl, hP1⟩
  have hR1 := Lib.hid (rd_made u32E w1 #[.int .u32 1, .int .u32 2] [1, 2] 2 rfl rfl (by decide))
  have hP1' := Lib.hid hP1
  clear hP1
  go_wp2_with fail
  refine (chooseU (hP1'.out.ext (al_below _ _)) (by decide) (by decide) hR1.out 0).mono ?_
  rintro e w2 ⟨rfl, -, hP2⟩
  rw [C1]
  have hP2' := Lib.hid hP2
  clear hP2
  go_wp2_with fail
  refine (goodU hP2'.out (by decide) (by decide) (fun k h => by cases h) 2 80 0 (by decide) (by decide)).mono ?_
  rintro e w3 ⟨rfl, hP3⟩
  rw [L1] at hP3
  have hP3' := Lib.hid hP3
  have hR3 := Lib.hid (rd_made u32E w3 #[.int .u32 1, .int .u32 2] [1, 2] 2 rfl rfl (by decide))
  clear hP3
  go_wp2_with fail
  refine (chooseU (hP3'.out.ext (al_below _ _)) (by decide) (by decide) hR3.out 0).mono ?_
  rintro e w4 ⟨rfl, -, hP4⟩
  rw [C2]
  have hP4' := Lib.hid hP4
  clear hP4
  go_wp2_with fail
  refine (goodU hP4'.out (by decide) (by decide) (kb_one _ (by unfold KB; decide)) 2 160 1 (by decide) (by decide)).mono ?_
  rintro e w5 ⟨rfl, hP5⟩
  rw [L2] at hP5
  have hP5' := Lib.hid hP5
  clear hP5
  go_wp2_with fail
  refine (knownU hP5'.out (by decide) (by decide)).mono ?_
  rintro e w6 ⟨⟨a6, c6, rfl, hR6⟩, -, hP6⟩
  have hP6' := Lib.hid hP6
  have hR6' := Lib.hid (hR6.ext (al_below w6 (.cells #[.int .u32 2, .int .i64 90, .int .i64 0, .int .i64 1] 34)))
  have hR7 := Lib.hid (rd_made knE w6 #[.int .u32 2, .int .i64 90, .int .i64 0, .int .i64 1] [⟨2, 90, 0, 1⟩] 1 rfl rfl (by decide))
  clear hP6 hR6
  go_wp2_with fail
  refine (known17 hR6'.out hR7.out (by decide)).mono ?_
  rintro e w7 ⟨rfl, hb7⟩
  go_wp2_with fail
  go_ret
  exact ⟨rfl, (hP6'.out.ext ((al_below _ _).trans (hb7.mono (size_al _ _ ▸ Nat.le_succ _)))).below⟩
end Go.Proofs.Ytjkeijjfjbcaiaa
