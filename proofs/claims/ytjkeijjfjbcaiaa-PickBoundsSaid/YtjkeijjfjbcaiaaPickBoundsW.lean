/- The law PickBounds, walked. -/
import Derived.Test.YtjkeijjfjbcaiaaPkN
import Derived.Test.YtjkeijjfjbcaiaaOpenN
namespace Go.Proofs.Ytjkeijjfjbcaiaa
open Go.RowKit Go.ChangeShapes Go.WideShapes
theorem wait_b (L : List Kn) (a : Int) : 1 ≤ waitK L a ∧ waitK L a ≤ 8 := by
  unfold waitK
  exact ⟨mn_ge (mx_ge2 _ _) (by decide), mn_le2 _ _⟩
set_option maxHeartbeats 8000000 in
set_option maxRecDepth 100000 in
theorem pickBounds_walk {W : World} {a : Option Addr} {n c : Nat} {xs : List Int} (hR : Rd intE W a n c xs) (r now : Int) : Calls Try.prog 7 #[.int .i64 r, .slice a n c, .int .i64 now] W fun e w' => e = .returned (.bool true) ∧ Below W.heap.size W w' := by
  have hR' := Lib.hid hR
  have hl := hR.len
  have hcap := hR.cap
  have hmax := hR.most
  have hnM : (n : Int) ≤ 9223372036854775807 := by
    simp only [maxLen] at hmax
    omega
  clear hR hmax hcap
  have e0 := Int.emod_nonneg r (by decide : (6 : Int) ≠ 0)
  have e1 := Int.emod_lt_of_pos r (by decide : (0 : Int) < 6)
  go_enter Try.func7, Try.ntmps7
  go_wp2_with fail
  refine (awake9 W).mono ?_
  rintro e w1 ⟨rfl, hb1⟩
  go_wp2_with fail
  refine (pick22 r 6 (by decide) (by decide) w1).mono ?_
  rintro e w2 ⟨rfl, rfl⟩
  have hb1' := Lib.hid hb1
  generalize r % 6 = q at *
  clear hb1
  by_cases h1 : (60 : Int) < n
  · go_wp2_with fail
    go_ret
    exact ⟨rfl, hb1'.out⟩
  by_cases h2 : now < 0
  · go_wp2_with fail
    go_ret
    exact ⟨rfl, hb1'.out⟩
  by_cases h3 : 1000000 < now
  · go_wp2_with fail
    go_ret
    exact ⟨rfl, hb1'.out⟩
  go_wp2_with fail
  refine (told10 (room := 1 + q) (by omega) (by omega) (by omega) (by omega) (hR'.out.ext hb1'.out) (by omega)).mono ?_
  rintro e w3 ⟨rfl, hP3⟩
  have hlen := toldK_room (room := 1 + q) (now := now) (by omega) xs
  have hok := Lib.hid (toldK_ok (1 + q) now xs)
  have hll : Hid ((toldK (1 + q) now xs).length ≤ 100000) := Lib.hid (by omega)
  have hkb : Hid (∀ k ∈ toldK (1 + q) now xs, KB k) := Lib.hid (fun k hk => (hok.out k hk).kb)
  have hP3' := Lib.hid hP3
  clear hP3
  generalize toldK (1 + q) now xs = L at *
  go_wp2_with fail
  refine (knownU hP3'.out (by omega) hll.out).mono ?_
  rintro e w4 ⟨⟨a4, c4, rfl, hR4⟩, hb4, hP4⟩
  have hP4' := Lib.hid hP4
  have hR4' := Lib.hid hR4
  clear hP4 hR4 hb4
  have hLI : (L.length : Int) ≤ 6 := by omega
  go_wp2_with fail
  go_loopw [11, 12] (fun i _ wr => ∃ k : Nat, k ≤ L.length ∧ i = .int .i64 k ∧ Hid (PkU w1 wr w1.heap.size (1 + q) L) ∧ Hid (Rd knE wr a4 L.length c4 L)) (fun i _ _ => L.length - (intOf i).toNat)
  case atStart => exact ⟨0, Nat.zero_le _, rfl, hP4', hR4'⟩
  case round =>
    clear hP4' hR4'
    obtain ⟨k, hk, rfl, hP, hRk⟩ := hrel
    by_cases hlt : k < L.length
    · have hkI : (k : Int) < L.length := by omega
      obtain ⟨b, o, rfl, _, hc⟩ := rd_kn hRk.out (by omega)
      obtain ⟨c0, c1, c2, c3⟩ := hc k hlt
      have hx := hok.out L[k] (List.getElem_mem _)
      clear hc
      generalize L[k] = x at *
      obtain ⟨xa, xt, xf, xg⟩ := x
      have x1 := hx.t0
      have x2 := hx.t1
      have x3 := hx.f0
      have x4 := hx.f1
      have x5 := hx.g0
      have x6 := hx.g1
      clear hx
      dsimp only at *
      go_wp2_with fail
      refine (waitU hP.out (by omega) hll.out hkb.out xa).mono ?_
      rintro e w5 ⟨rfl, hb5, hP5⟩
      obtain ⟨y1, y2⟩ := wait_b L xa
      have hR5 := hRk.out.ext hb5
      have hR5' := Lib.hid hR5
      have hP5' := Lib.hid hP5
      have d1 := (World.cell?_of_block (w := wr) (hb5.block b (World.block_lt_of_cell? wr _ c1))).trans c1
      have d2 := (World.cell?_of_block (w := wr) (hb5.block b (World.block_lt_of_cell? wr _ c2))).trans c2
      have d3 := (World.cell?_of_block (w := wr) (hb5.block b (World.block_lt_of_cell? wr _ c3))).trans c3
      clear hR5 hP5 hb5 c0 c1 c2 c3
      generalize waitK L xa = y at *
      have z1 : ¬ xt < 0 := by omega
      have z2 : ¬ 10000 < xt := by omega
      have z3 : ¬ xf < 0 := by omega
      have z4 : ¬ 10 < xf := by omega
      have z5 : ¬ xg < now := by omega
      have z6 : ¬ now + 1024 < xg := by omega
      have z7 : ¬ y < 1 := by omega
      have z8 : ¬ 8 < y := by omega
      go_wp2_with fail
      go_roundw
      case rel => exact ⟨k + 1, by omega, by go_num, hP5', hR5'⟩
      case measure => simp [intOf]; omega
    · have hk' : k = L.length := by omega
      subst hk'
      have z : (L.length : Int) ≤ 1 + q := by omega
      go_wp2_with fail
      go_ret
      exact ⟨rfl, hb1'.out.trans (hP.out.below.mono hb1'.out.size)⟩
theorem pickBounds_law {H : Type} {enc : TypeId × Value → H} {W : World} {ts : List TypeId} {ds : List (DataW H)} (r : Int) (_ : (Lit.int .i64 r).wf = true) (v : Value) (d : DataW H) (p : List MemPlace) (h : DataW.Trod enc Try.prog W 0 (fun _ => true) true 22 v d p) {rr : Reach} {b0 : Nat} (hv : Value.okWide Try.prog W rr b0 22 v)
    (_ : (DataW.weightsEach Try.prog ts ds).all (· ≤ reachBytes) = true) (now : Int) (_ : (Lit.int .i64 now).wf = true) (_ : World) :
    Calls Try.prog 7 #[.int .i64 r, v, .int .i64 now] W fun e w' => e = .returned (.bool true) ∧ Below W.heap.size W w' := by
  obtain ⟨a, n, c, l, rfl, hR, _⟩ := open_nums Try.underlying22 hv h
  exact pickBounds_walk hR r now
end Go.Proofs.Ytjkeijjfjbcaiaa
