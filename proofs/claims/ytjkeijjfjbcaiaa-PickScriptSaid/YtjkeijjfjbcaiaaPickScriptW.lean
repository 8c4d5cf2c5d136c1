/- The law PickScript, walked. -/
import Derived.Test.YtjkeijjfjbcaiaaPkW
import Derived.Test.YtjkeijjfjbcaiaaOpenA
import Derived.Test.YtjkeijjfjbcaiaaPkK
namespace Go.Proofs.Ytjkeijjfjbcaiaa
open Go.RowKit Go.ChangeShapes Go.WideShapes
theorem rd_act {w : World} {a : Option Addr} {n c : Nat} {l : List ActD} (h : Rd actE w a n c l) (h0 : 0 < n) : ∃ b o, a = some ⟨b, o, none⟩ ∧ b < w.heap.size ∧ ∀ j (hj : j < l.length), w.cell? ⟨b, o + j * 5, none⟩ = some (.int .i64 l[j].k) ∧ w.cell? ⟨b, o + j * 5 + 1, none⟩ = some (.slice l[j].la l[j].ln l[j].lc) ∧ w.cell? ⟨b, o + j * 5 + 2, none⟩ = some (.int .u32 l[j].y) ∧ w.cell? ⟨b, o + j * 5 + 3, none⟩ = some (.int .i64 l[j].t) ∧ w.cell? ⟨b, o + j * 5 + 4, none⟩ = some (.int .i64 l[j].n) := by
  obtain ⟨b, o, h1, h3, h2⟩ := h.addr h0
  refine ⟨b, o, h1, h3, fun j hj => ⟨?_, ?_, ?_, ?_, ?_⟩⟩
  · simpa [actE] using h2 j hj 0 (by decide)
  · simpa [actE, Nat.add_assoc] using h2 j hj 1 (by decide)
  · simpa [actE, Nat.add_assoc] using h2 j hj 2 (by decide)
  · simpa [actE, Nat.add_assoc] using h2 j hj 3 (by decide)
  · simpa [actE, Nat.add_assoc] using h2 j hj 4 (by decide)
theorem kbn : ∀ k ∈ ([] : List Kn), KB k := fun k h => by cases h
theorem PR0.look {P : Program} {f : FuncId} {args : Array Value} {R : Ending → World → Prop} {u w : World} {p q : Nat} {room : Int} {L M : List Kn} (h : PR0 u w p q room L M) (hc : ∀ v a c, Pk w p room v L → Rk w q room a c M → Calls P f args w fun e w' => R e w' ∧ Below w.heap.size w w') :
    Calls P f args w fun e w' => R e w' ∧ Below w.heap.size w w' ∧ PR0 u w' p q room L M := by
  obtain ⟨v, a, c, h1, h2, _⟩ := id h
  refine (hc v a c h1 h2).mono ?_
  rintro e w' ⟨hr, hb⟩
  exact ⟨hr, hb, h.ext hb⟩
theorem PR0.rcell {u w : World} {p q : Nat} {room : Int} {L M : List Kn} (h : PR0 u w p q room L M) : ∃ a c, w.cell? ⟨q, 1, none⟩ = some (.slice a M.length c) ∧ Rd knE w a M.length c M := by
  obtain ⟨v, a, c, h1, h2, _⟩ := h
  exact ⟨a, c, h2.blk.cell 1, h2.rd⟩
theorem PR0.made {u w1 w2 : World} {p q : Nat} {room : Int} (hP : Pk w1 p room (.slice none 0 0) []) (hu : Below u.heap.size u w1) (hp : u.heap.size ≤ p) (hR : Rk w2 q room none 0 []) (hb : Below w1.heap.size w1 w2) (hq : q = w1.heap.size) : PR0 u w2 p q room [] [] := by
  have hlt := hP.blk.lt
  refine ⟨.slice none 0 0, none, 0, hP.ext hb, hR, by omega, by simp [Value.ownBlock], (fun b o s e => by cases e), hu.trans (hb.mono hu.size), hp, ?_, (fun b e => by simp [Value.ownBlock] at e)⟩
  have := hu.size
  omega
theorem PR0.knownR {u w : World} {p q : Nat} {room : Int} {L : List Kn} (h : PR0 u w p q room L L) (h1 : 1 ≤ room) (hl : L.length ≤ 100000) :
    Calls Try.prog 12 #[.pointer (some ⟨p, 0, none⟩)] w fun e w' => (∃ a c, e = .returned (.slice a L.length c) ∧ Rd knE w' a L.length c L) ∧ Below w.heap.size w w' := by
  obtain ⟨v, a, c, g1, _⟩ := id h
  refine (known12 g1 h1 (by omega)).mono ?_
  rintro e w' ⟨⟨v', rfl, hO⟩, hb⟩
  obtain ⟨a, c, rfl, hR⟩ := hO.rd
  exact ⟨⟨a, c, rfl, hR⟩, hb⟩
theorem Rd.same {α : Type} {E : Enc α} {w w' : World} {a : Option Addr} {n c : Nat} {l : List α} (h : Rd E w a n c l) (e : w'.heap = w.heap) : Rd E w' a n c l := h.keep fun b _ _ _ _ => by rw [e]
theorem blk_thaw {w : World} {g : Nat} {t : TypeId} {C : List Value} (h : Blk w g t (0, 0) C) (j : Nat) : w.frozen? ⟨g, j, none⟩ = false := by rw [h.frozen]; simp
theorem PR.upd {u w w' : World} {p q : Nat} {room : Int} {L M : List Kn} {x : Nat} {t : TypeId} {C C' : List Value} (h : PR u w p q room L M x t C) (hx : u.heap.size ≤ x) (hg : w.grownBy w' (some x)) (hB : Blk w' x t (0, 0) C') : PR u w' p q room L M x t C' := by
  obtain ⟨v, a, c, h1, h2, h3, h4, h5, h6, h7, h8, h9, h10, h11, h12, h13, h14⟩ := h
  have hT : Tch (fun b => b = x) w w' := Tch.of_grown hg (fun k e => by cases e; rfl)
  exact ⟨v, a, c, h1.tch hT (fun e => h7 e.symm) (fun b e1 e2 => h9 (by rw [e1, e2])), h2.tch hT (fun e => h8 e.symm) (fun b o s e => h14 b o s e), h3, h4, (fun b o s e => ⟨(h5 b o s e).1, (h5 b o s e).2.1, Nat.lt_of_lt_of_le (h5 b o s e).2.2 hg.size⟩), hB, h7, h8, h9, h10.grown hg h10.size (fun k e => by cases e; exact hx), h11, h12, h13, h14⟩
theorem PR0.known {u w : World} {p q : Nat} {room : Int} {L : List Kn} (h : PR0 u w p q room L L) (h1 : 1 ≤ room) (hl : L.length ≤ 100000) :
    Calls Try.prog 12 #[.pointer (some ⟨p, 0, none⟩)] w fun e w' => (e = .returned (.slice none 0 0) ∧ L = [] ∧ PR0 u w' p q room L L) ∨
      ∃ g cap X, e = .returned (.slice (some ⟨g, 0, none⟩) L.length cap) ∧ X.length = cap ∧ L.length ≤ cap ∧ cap ≤ maxLen ∧ X.take L.length = L ∧ u.heap.size ≤ g ∧ PR u w' p q room L L g 34 (rowOf knE X) := by
  obtain ⟨v, a, c, g1, g2, g3, g4, g5, g10, g11, g12, g13⟩ := id h
  have hp := g1.blk.lt
  have hq := g2.blk.lt
  refine (known12 g1 h1 (by omega)).mono ?_
  rintro e w' ⟨⟨v', rfl, hO⟩, hb⟩
  rcases hO with ⟨rfl, rfl⟩ | ⟨g, cap, X, rfl, hbg, hBg, hX, hle, hcm, htk⟩
  · exact .inl ⟨rfl, rfl, h.ext hb⟩
  · refine .inr ⟨g, cap, X, rfl, hX, hle, hcm, htk, Nat.le_trans g10.size hbg, v, a, c, g1.ext hb, g2.ext hb, g3, g4, (fun b o s e => ⟨(g5 b o s e).1, (g5 b o s e).2.1, Nat.lt_of_lt_of_le (g5 b o s e).2.2 hb.size⟩), hBg, by omega, by omega, ?_, g10.trans (hb.mono g10.size), g11, g12, g13, (fun b o s e => by have := (g5 b o s e).2.2; omega)⟩
    intro e
    have := (g1.own.lt g e).2
    omega
set_option maxHeartbeats 16000000 in
set_option maxRecDepth 100000 in
theorem pickScript_walk {W : World} {a : Option Addr} {n c : Nat} {A : List ActD} (hR : Rd actE W a n c A) (hS : ∀ q, q ∈ A → ∃ s, Rd u32E W q.la q.ln q.lc s) (room : Int) : Calls Try.prog 4 #[.int .i64 room, .slice a n c] W fun e w' => e = .returned (.bool true) ∧ Below W.heap.size W w' := by
  have hR' := Lib.hid hR
  have hS' := Lib.hid hS
  have hln := hR.len
  have hcap := hR.cap
  have hmax := hR.most
  have hnM : (n : Int) ≤ 9223372036854775807 := by
    simp only [maxLen] at hmax
    omega
  clear hR hS hmax hcap
  by_cases hn : (100 : Int) < n
  · go_enter Try.func4, Try.ntmps4
    go_wp2_with fail
    go_ret
    exact ⟨rfl, Below.refl _ _⟩
  by_cases hroom : room < 1 ∨ 4096 < room
  · go_enter Try.func4, Try.ntmps4
    go_wp2_with fail
    refine (new14_no room hroom W).mono ?_
    rintro e w1 ⟨rfl, rfl⟩
    go_wp2_with fail
    refine (new15_no room hroom W).mono ?_
    rintro e w1 ⟨rfl, rfl⟩
    go_wp2_with fail
    go_loopw [9, 10, 11] (fun i _ _ wr => i = .int .i64 0 ∧ W = wr) (fun i _ _ _ => 0)
    case atStart => exact ⟨rfl, rfl⟩
    case round =>
      obtain ⟨rfl, rfl⟩ := hrel
      go_wp2_with fail
      go_region
      go_wp2_with fail
      go_ret
      exact ⟨rfl, (Below.refl _ _).drew⟩
  have h1 : 1 ≤ room := by omega
  have h2 : room ≤ 4096 := by omega
  clear hroom
  go_enter Try.func4, Try.ntmps4
  go_wp2_with fail
  refine (new14 room h1 h2 W).mono ?_
  rintro e w1 ⟨rfl, hP1, hb1⟩
  have hP1' := Lib.hid hP1
  have hb1' := Lib.hid hb1
  have hz1 := hb1.size
  have hp1 := hP1.blk.lt
  clear hP1 hb1
  go_wp2_with fail
  refine (new15 room h1 h2 w1).mono ?_
  rintro e w2 ⟨rfl, hQ2, hb2⟩
  have hPR : Hid (PR0 W w2 W.heap.size w1.heap.size room [] []) := Lib.hid (PR0.made hP1'.out hb1'.out (Nat.le_refl _) hQ2 hb2 rfl)
  clear hQ2 hb2 hP1'
  obtain ⟨q, hq⟩ : ∃ q, w1.heap.size = q := ⟨_, rfl⟩
  rw [hq] at hPR
  go_wp2_with fail
  go_loopw [9, 10, 11] (fun i _ _ wr => ∃ k : Nat, k ≤ n ∧ i = .int .i64 k ∧ ∃ L : List Kn, PR0 W wr W.heap.size q room L L ∧ (∀ z ∈ L, KB z) ∧ (L.length : Int) ≤ room) (fun i _ _ _ => n - (intOf i).toNat)
  case atStart => exact ⟨0, Nat.zero_le _, rfl, [], hPR.out, kbn, by show (0 : Int) ≤ room; omega⟩
  case round =>
    clear hPR
    obtain ⟨k, hk, rfl, L, hP0, hkb0, hlr⟩ := hrel
    have hP := Lib.hid hP0
    have hkb := Lib.hid hkb0
    have hll : Hid (L.length ≤ 100000) := Lib.hid (by omega)
    have hbR : Hid (Below W.heap.size W wr) := Lib.hid hP0.below
    clear hP0 hkb0
    by_cases hlt : k < n
    · have hkI : (k : Int) < n := by omega
      obtain ⟨b, o, rfl, hbs, hc⟩ := rd_act hR'.out (by omega)
      obtain ⟨c0, c1, c2, c3, c4⟩ := hc k (by omega)
      have up : ∀ j v, W.cell? ⟨b, j, none⟩ = some v → wr.cell? ⟨b, j, none⟩ = some v := fun j v h => (World.cell?_of_block (w := W) (hbR.out.block b hbs)).trans h
      have c0 := up _ _ c0
      have c1 := up _ _ c1
      have c2 := up _ _ c2
      have c3 := up _ _ c3
      have c4 := up _ _ c4
      obtain ⟨s, hs⟩ := hS'.out (A[k]'(by omega)) (List.getElem_mem _)
      have hs' := Lib.hid (hs.ext hbR.out)
      have hsl := hs.cap
      have hsm := hs.most
      clear hc up hs
      generalize A[k]'(by omega) = z at *
      obtain ⟨zk, la, ln, lc, zy, zt, zn⟩ := z
      dsimp only at *
      have hlM : (ln : Int) ≤ 9223372036854775807 := by
        simp only [maxLen] at hsm
        omega
      clear hsm hsl
      by_cases h60 : (60 : Int) < ln
      · go_wp2_with fail
        go_ret
        exact ⟨rfl, hbR.out⟩
      go_wp2_with fail
      refine (act16 hP.out h1 h2 hlr hkb.out hs'.out (by omega) zk zy zt zn).mono ?_
      rintro e w3 ⟨rfl, L', hP3, hkb3, hl3⟩
      have hP3' := Lib.hid hP3
      have hkb3' := Lib.hid hkb3
      have hll3 : Hid (L'.length ≤ 100000) := Lib.hid (by omega)
      clear hP3 hkb3 hP hs' c0 c1 c2 c3 c4 hbR hkb hll hlr
      go_wp2_with fail
      refine (PR0.known hP3'.out h1 hll3.out).mono ?_
      rintro e w4 (⟨rfl, hnil, hP4⟩ | ⟨g, cap, X, rfl, hX, hle, hcm, htk, hug, hP4⟩)
      · subst hnil
        obtain ⟨ra, rc, hra, hrd⟩ := hP4.rcell
        have hP4' := Lib.hid hP4
        have hrd' := Lib.hid hrd
        clear hP4 hrd
        go_wp2_with fail
        refine (known17 (Rd.nil knE w4) hrd'.out (by decide)).mono ?_
        rintro e w5 ⟨rfl, hb5⟩
        have hP5 := Lib.hid (hP4'.out.ext hb5)
        clear hb5
        go_wp2_with fail
        go_loopw [11] (fun j wq => j = .int .i64 0 ∧ w5 = wq) (fun _ _ => 0)
        case atStart => exact ⟨rfl, rfl⟩
        case round =>
          obtain ⟨rfl, rfl⟩ := hrel
          go_wp2_with fail
          go_roundw
          case rel => exact ⟨k + 1, by omega, by go_num, [], hP5.out, kbn, hl3⟩
          case measure => simp [intOf]; omega
      · obtain ⟨ra, rc, hra, hrd⟩ := hP4.drop.rcell
        have hA : Rd knE w4 (some ⟨g, 0, none⟩) L'.length cap L' := by
          obtain ⟨a, c, e, h⟩ := Own.rd (E := knE) (w := w4) (base := 0) (v := .slice (some ⟨g, 0, none⟩) L'.length cap) (l := L') (.inr ⟨g, cap, X, rfl, Nat.zero_le _, hP4.blk, hX, hle, hcm, htk⟩)
          cases e
          exact h
        have hA' := Lib.hid hA
        have hP4' := Lib.hid hP4
        have hrd' := Lib.hid hrd
        have hX' := Lib.hid hX
        have hLI : (L'.length : Int) ≤ 100000 := by have := hll3.out; omega
        clear hP4 hrd hA htk hX
        go_wp2_with fail
        refine (known17 hA'.out hrd'.out (by have := hll3.out; omega)).mono ?_
        rintro e w5 ⟨rfl, hb5⟩
        have hP5 := Lib.hid (hP4'.out.ext hb5)
        clear hb5
        go_wp2_with fail
        go_loopw [11] (fun j wq => ∃ m : Nat, m ≤ L'.length ∧ j = .int .i64 m ∧ ∃ C : List Kn, C.length = cap ∧ PR W wq W.heap.size q room L' L' g 34 (rowOf knE C)) (fun j _ => L'.length - (intOf j).toNat)
        case atStart => exact ⟨0, Nat.zero_le _, rfl, X, hX'.out, hP5.out⟩
        case round =>
          clear hP5
          obtain ⟨m, hm, rfl, C, hC, hPq⟩ := hrel
          by_cases hml : m < L'.length
          · have hmI : (m : Int) < L'.length := by omega
            have hm0 : (0 : Int) ≤ m := by omega
            have hmC : m < C.length := by omega
            have hBq := hPq.blk
            obtain ⟨s0, s1, s2, s3⟩ := blk_kn hBq m hmC
            have f0 := blk_thaw hBq
            have f1 := f0 (m * 4)
            have f2 := f0 (m * 4 + 1)
            have f3 := f0 (m * 4 + 2)
            have f4 := f0 (m * 4 + 3)
            have hPn := Lib.hid (hPq.upd hug (grown_set4 _ g (m * 4) (.int .u32 77) (.int .i64 1) (.int .i64 0) (.int .i64 0)) (blk_set4 hBq m hmC ⟨77, 1, 0, 0⟩))
            clear f0 hBq hPq
            go_wp2_with fail
            go_roundw
            case rel => exact ⟨m + 1, by omega, by go_num, C.set m ⟨77, 1, 0, 0⟩, by rw [List.length_set]; exact hC, hPn.out⟩
            case measure => simp [intOf]; omega
          · have hPq' := Lib.hid hPq.drop
            clear hPq
            go_wp2_with fail
            go_roundw
            case rel => exact ⟨k + 1, by omega, by go_num, L', hPq'.out, hkb3'.out, hl3⟩
            case measure => simp [intOf]; omega
    · have hk' : k = n := by omega
      subst hk'
      obtain ⟨ra, rc, hra, hrd⟩ := hP.out.rcell
      have hrd' := Lib.hid hrd
      have mk : ∀ w', Below wr.heap.size wr w' → Below wr.heap.size wr w' ∧ w'.cell? ⟨q, 1, none⟩ = some (.slice ra L.length rc) := fun w' hb => ⟨hb, (World.cell?_of_block (hb.block q (World.block_lt_of_cell? wr _ hra))).trans hra⟩
      have mk' := Lib.hid mk
      clear mk hrd
      go_wp2_with fail
      go_region_held3 (fun w' => Below wr.heap.size wr w' ∧ w'.cell? ⟨q, 1, none⟩ = some (.slice ra L.length rc))
        (first | assumption | exact mk'.out _ (Below.refl _ _).drew | exact mk'.out _ (below_drewN (Below.refl _ _) _).drew | exact mk'.out _ (by assumption) | exact mk'.out _ (below_drewN (by assumption) _))
        (first | (go_at_call 12; refine (PR0.knownR (hP.out.ext (And.left (by assumption))) h1 hll.out).mono ?_; rintro en w8 ⟨⟨ka, kc, rfl, hK⟩, hb8⟩; have hKh := Lib.hid hK; have hb9 := S_tr (by assumption) hb8; clear hK) | (go_at_call 17; refine (known17 (Rd.same hKh.out (by rfl)) (hrd'.out.ext (by first | exact hb9 | exact below_drewN hb9 _ | exact hb9.drew)) (by have := hll.out; omega)).mono ?_; rintro en w9 ⟨rfl, hb10⟩; have hb11 := S_tr (by assumption) hb10))
      all_goals
        go_wp2_with fail
        go_ret
        exact ⟨rfl, S_end hbR.out (by assumption)⟩
theorem pickScript_law {H : Type} {enc : TypeId × Value → H} {W : World} {ts : List TypeId} {ds : List (DataW H)} (room : Int) (_ : (Lit.int .i64 room).wf = true) (v : Value) (d : DataW H) (p : List MemPlace) (h : DataW.Trod enc Try.prog W 0 (fun _ => true) true 37 v d p) {rr : Reach} {b0 : Nat} (hv : Value.okWide Try.prog W rr b0 37 v)
    (_ : (DataW.weightsEach Try.prog ts ds).all (· ≤ reachBytes) = true) (_ : World) :
    Calls Try.prog 4 #[.int .i64 room, v] W fun e w' => e = .returned (.bool true) ∧ Below W.heap.size W w' := by
  obtain ⟨a, n, c, l, rfl, hR, hS⟩ := open_acts hv h
  exact pickScript_walk hR hS room
end Go.Proofs.Ytjkeijjfjbcaiaa
