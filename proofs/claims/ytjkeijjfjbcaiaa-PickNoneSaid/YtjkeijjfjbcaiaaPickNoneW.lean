/- The law PickNone, walked. -/
import Derived.Test.YtjkeijjfjbcaiaaPkK
import Derived.Test.YtjkeijjfjbcaiaaOpenN
namespace Go.Proofs.Ytjkeijjfjbcaiaa
open Go.RowKit Go.ChangeShapes Go.WideShapes
set_option maxHeartbeats 8000000 in
set_option maxRecDepth 100000 in
theorem pickNone_walk (W : World) (a : Option Addr) (n c : Nat) (addr now : Int) : Calls Try.prog 5 #[.slice a n c, .int .u32 addr, .int .i64 now] W fun e w' => e = .returned (.bool true) ∧ Below W.heap.size W w' := by
  go_enter Try.func5, Try.ntmps5
  go_wp2_with fail
  have hb0 := below_al2 W (.cells #[.int .i64 0, .slice none 0 0] 52) (.cells #[.pointer none, .pointer (some ⟨W.heap.size, 0, none⟩)] 25)
  have hA := (Blk.new W 52 (0, 0) #[.int .i64 0, .slice none 0 0]).alloc (.cells #[.pointer none, .pointer (some ⟨W.heap.size, 0, none⟩)] 25)
  have hN : Blk ((W.alloc (.cells #[.int .i64 0, .slice none 0 0] 52)).alloc (.cells #[.pointer none, .pointer (some ⟨W.heap.size, 0, none⟩)] 25)) (W.heap.size + 1) 25 (0, 0) [.pointer none, .pointer (some ⟨W.heap.size, 0, none⟩)] := by
    have := Blk.new (W.alloc (.cells #[.int .i64 0, .slice none 0 0] 52)) 25 (0, 0) #[.pointer none, .pointer (some ⟨W.heap.size, 0, none⟩)]
    rwa [size_al] at this
  have hA' := Lib.hid hA
  have hN' := Lib.hid hN
  have hb0' := Lib.hid hb0
  clear hA hN hb0
  generalize (W.alloc (.cells #[.int .i64 0, .slice none 0 0] 52)).alloc (.cells #[.pointer none, .pointer (some ⟨W.heap.size, 0, none⟩)] 25) = w0 at *
  go_loopw [8, 9, 10, 11] (fun i _ _ _ wr => ∃ k : Nat, k ≤ 2 ∧ i = .int .i64 k ∧ Below w0.heap.size w0 wr) (fun i _ _ _ _ => 2 - (intOf i).toNat)
  case atStart => exact ⟨0, by omega, rfl, Below.refl _ _⟩
  case round =>
    obtain ⟨k, hk, rfl, hb⟩ := hrel
    have hN2 : Blk wr (W.heap.size + 1) 25 (0, 0) [.pointer none, .pointer (some ⟨W.heap.size, 0, none⟩)] := hN'.out.below hb hN'.out.lt
    have q0 : wr.cell? ⟨W.heap.size + 1, 0, none⟩ = some (.pointer none) := hN2.cell 0
    have q1 : wr.cell? ⟨W.heap.size + 1, 1, none⟩ = some (.pointer (some ⟨W.heap.size, 0, none⟩)) := hN2.cell 1
    have hz : wr.cell? ⟨W.heap.size, 0, none⟩ = some (.int .i64 0) := (hA'.out.below hb hA'.out.lt).cell 0
    have hb' := Lib.hid hb
    clear hN2 hb
    obtain rfl | rfl | rfl : k = 0 ∨ k = 1 ∨ k = 2 := by omega
    · clear hz
      have e0 : ((0 : Nat) : Int) = 0 := rfl
      rw [e0]
      go_wp2_with fail
      refine (choose_nil a n c now).mono ?_
      rintro e w1 ⟨rfl, hb1⟩
      have hb2 := Lib.hid (hb'.out.trans (hb1.mono hb'.out.size))
      clear hb1
      go_wp2_with fail
      refine (good_nil addr 1 now).mono ?_
      rintro e w3 ⟨rfl, rfl⟩
      go_wp2_with fail
      refine (bad_nil addr now).mono ?_
      rintro e w3 ⟨rfl, rfl⟩
      go_wp2_with fail
      refine (lame_nil addr now).mono ?_
      rintro e w3 ⟨rfl, rfl⟩
      go_wp2_with fail
      refine (wait_nil addr).mono ?_
      rintro e w3 ⟨rfl, rfl⟩
      go_wp2_with fail
      refine (known_nil ).mono ?_
      rintro e w3 ⟨rfl, rfl⟩
      go_wp2_with fail
      go_roundw
      case rel => exact ⟨1, by omega, by first | rfl | go_num, hb2.out⟩
      case measure => simp [intOf]
    · have e0 : ((1 : Nat) : Int) = 1 := rfl
      rw [e0]
      go_wp2_with fail
      refine (choose_zero hz a n c now).mono ?_
      rintro e w1 ⟨rfl, hb1⟩
      have hz1 : w1.cell? ⟨W.heap.size, 0, none⟩ = some (.int .i64 0) := (World.cell?_of_block (hb1.block _ (World.block_lt_of_cell? _ _ hz))).trans hz
      have hb2 := Lib.hid (hb'.out.trans (hb1.mono hb'.out.size))
      clear hb1
      go_wp2_with fail
      refine (good_zero hz1 addr 1 now).mono ?_
      rintro e w3 ⟨rfl, rfl⟩
      go_wp2_with fail
      refine (bad_zero hz1 addr now).mono ?_
      rintro e w3 ⟨rfl, rfl⟩
      go_wp2_with fail
      refine (lame_zero hz1 addr now).mono ?_
      rintro e w3 ⟨rfl, rfl⟩
      go_wp2_with fail
      refine (wait_zero hz1 addr).mono ?_
      rintro e w3 ⟨rfl, rfl⟩
      go_wp2_with fail
      refine (known_zero hz1 ).mono ?_
      rintro e w3 ⟨rfl, rfl⟩
      go_wp2_with fail
      go_roundw
      case rel => exact ⟨2, by omega, by first | rfl | go_num, hb2.out⟩
      case measure => simp [intOf]
    · have e0 : ((2 : Nat) : Int) = 2 := rfl
      rw [e0]
      go_wp2_with fail
      refine (awake9 wr).mono ?_
      rintro e w1 ⟨rfl, hb1⟩
      go_wp2_with fail
      go_ret
      have hb2 := hb'.out.trans (hb1.mono hb'.out.size)
      exact ⟨rfl, hb0'.out.trans (hb2.mono hb0'.out.size)⟩
theorem pickNone_law {H : Type} {enc : TypeId × Value → H} {W : World} {b0 : Nat} {r : Reach} {ts : List TypeId} {ds : List (DataW H)} (v : Value) (d : DataW H) (p : List MemPlace) (_h : DataW.Trod enc Try.prog W 0 (fun _ => true) true 23 v d p) (hv : Value.okWide Try.prog W r b0 23 v)
    (_hsz : (DataW.weightsEach Try.prog ts ds).all (· ≤ reachBytes) = true) (addr : Int) (_w1 : (Lit.int .u32 addr).wf = true) (now : Int) (_w2 : (Lit.int .i64 now).wf = true) (_ : World) :
    Calls Try.prog 5 #[v, .int .u32 addr, .int .i64 now] W fun e w' => e = .returned (.bool true) ∧ Below W.heap.size W w' := by
  obtain ⟨a, n, c, rfl⟩ := okWide_slice Try.underlying23 hv
  exact pickNone_walk W a n c addr now
end Go.Proofs.Ytjkeijjfjbcaiaa
