/- The verifier's kit on bytes: Kept. -/
import Derived.Test.YthdnbipfdahnlaaKitB
import Derived.Deep.RegionHeld3
namespace Go.Proofs.Ythdnbipfdahnlaa
open Go.RowKit
theorem rd_blk {α : Type} {E : Enc α} {w : World} {g : Nat} {fz : Nat × Nat} {X : List α} (h : Blk w g E.e fz (rowOf E X)) (n : Nat) (hn : n = X.length) (hm : n ≤ maxLen) : Rd E w (some ⟨g, 0, none⟩) n n X := by
  subst hn
  refine ⟨rfl, Nat.le_refl _, hm, fun j hj i hi => ⟨g, 0, rfl, ?_⟩⟩
  rw [h.cell, Nat.zero_add, rowOf_get E X j i hj hi]
set_option maxHeartbeats 1000000 in
set_option maxRecDepth 100000 in
theorem kept_bytes {w : World} {a a' : Option Addr} {n c n' c' : Nat} {X l : List UInt8} (h : Rd byteE w a c c X) (_hn : n ≤ c) (h' : Rd byteE w a' n' c' l) (hc : n' ≤ 140737488351232) (he : n = n') :
    Calls Try.prog 35 #[.slice a n c, .slice a' n' c'] w fun e w' => e = .returned (.bool (X == lentL l)) ∧ Below w.heap.size w w' := by
  subst he
  have hll := h'.len
  have hH := Lib.hid h; clear h
  have hH' := Lib.hid h'; clear h'
  have hcm := hH.out.most
  unfold maxLen at hcm
  have hLL := Lib.hid hll; clear hll
  have e1 : IntKind.i64.wrap ((n : Int) + 3) = (n : Int) + 3 := IntWalk.i64_in _ (by omega)
  have e2 : (0 : Int) ≤ (n : Int) + 3 := by omega
  have e3 : ((n : Int) + 3).toNat = n + 3 := by omega
  go_enter Try.func35, Try.ntmps35
  go_wp2_with fail
  go_region_held3 (fun w' => Below w.heap.size w w')
    (first | assumption | exact (Below.refl _ _).drew | exact (Below.refl _ _).drew.trans (by assumption))
    (first | (go_at_call 30; refine (lent_bytes (hH'.out.ext (by assumption)) hc).mono ?_; rintro e w1 ⟨rfl, hB1, hb1⟩; have hBB := Lib.hid hB1; clear hB1) | (go_at_call 41; refine (same_bytes (hH.out.ext (by assumption)) (rd_blk (E := byteE) (X := lentL l) (by rw [rowOf_byte]; exact Hid.out (by assumption)) _ (by rw [lentL_length, hLL.out]) (by unfold maxLen; omega))).mono ?_; rintro e w2 ⟨rfl, rfl⟩))
  go_wp2_with fail
  go_ret
  exact ⟨rfl, by assumption⟩
end Go.Proofs.Ythdnbipfdahnlaa
