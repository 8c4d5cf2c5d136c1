/- Readers and pipes that are none; StreamNone. -/
import Derived.Test.YtmimbfikjnfhdaaStF
import Derived.Test.YtmimbfikjnfhdaaOpenB
namespace Go.Proofs.Ytmimbfikjnfhdaa
open Go.RowKit
/-- a reader that is none -/
def NonR (v : Value) (w : World) : Prop := v = .pointer none ∨ ∃ g, v = .pointer (some ⟨g, 0, none⟩) ∧ Blk w g 63 (0, 0) [.slice none 0 0, .bool false, .bool false]
/-- a pipe that is none -/
def NonP (v : Value) (w : World) : Prop := v = .pointer none ∨ ∃ g, v = .pointer (some ⟨g, 0, none⟩) ∧ Blk w g 68 (0, 0) [.int .i64 0, .map none, .slice none 0 0]
theorem NonR.ext {v : Value} {w w' : World} (h : NonR v w) (hb : Below w.heap.size w w') : NonR v w' := by
  rcases h with rfl | ⟨g, rfl, hB⟩
  · exact .inl rfl
  · exact .inr ⟨g, rfl, hB.below hb hB.lt⟩
theorem NonP.ext {v : Value} {w w' : World} (h : NonP v w) (hb : Below w.heap.size w w') : NonP v w' := by
  rcases h with rfl | ⟨g, rfl, hB⟩
  · exact .inl rfl
  · exact .inr ⟨g, rfl, hB.below hb hB.lt⟩
set_option maxRecDepth 100000 in
theorem non_feed {v : Value} {w : World} (h : NonR v w) (x : Value) : Calls Try.prog 24 #[v, x] w fun e w' => e = .returned (.tuple #[.slice none 0 0, .int .i64 1]) ∧ w = w' := by
  rcases h with rfl | ⟨g, rfl, hB⟩
  · go_enter Try.func24, Try.ntmps24
    go_wp2_with fail
    ((try simp only [Exit.inBlock, Exit.then]); refine bodyPost_ret (results_tmp2 rfl _ _ _) rfl ?_)
    exact ⟨rfl, rfl⟩
  · have k2 : w.cell? ⟨g, 2, none⟩ = some (.bool false) := by rw [hB.cell]; rfl
    clear hB
    go_enter Try.func24, Try.ntmps24
    go_wp2_with fail
    ((try simp only [Exit.inBlock, Exit.then]); refine bodyPost_ret (results_tmp2 rfl _ _ _) rfl ?_)
    exact ⟨rfl, rfl⟩
theorem non_waiting {v : Value} {w : World} (h : NonR v w) : Calls Try.prog 27 #[v] w fun e w' => e = .returned (.int .i64 0) ∧ w = w' := by
  rcases h with rfl | ⟨g, rfl, hB⟩
  · go_enter Try.func27, Try.ntmps27
    go_wp2_with fail
    go_ret
    exact ⟨rfl, rfl⟩
  · have k2 : w.cell? ⟨g, 0, none⟩ = some (.slice none 0 0) := by rw [hB.cell]; rfl
    clear hB
    go_enter Try.func27, Try.ntmps27
    go_wp2_with fail
    go_ret
    exact ⟨rfl, rfl⟩
theorem non_broken {v : Value} {w : World} (h : NonR v w) : Calls Try.prog 28 #[v] w fun e w' => e = .returned (.bool false) ∧ w = w' := by
  rcases h with rfl | ⟨g, rfl, hB⟩
  · go_enter Try.func28, Try.ntmps28
    go_wp2_with fail
    go_ret
    exact ⟨rfl, rfl⟩
  · have k2 : w.cell? ⟨g, 1, none⟩ = some (.bool false) := by rw [hB.cell]; rfl
    clear hB
    go_enter Try.func28, Try.ntmps28
    go_wp2_with fail
    go_ret
    exact ⟨rfl, rfl⟩
theorem qmap (u : World) (r : Option Nat) : (binOp .eql 65 (.map r) (.map none)).run Try.prog u = .ok (.bool r.isNone) u := run_eql_map_nil u 65 30 3 r Try.underlying65
theorem non_none {v : Value} {w : World} (h : NonP v w) : Calls Try.prog 35 #[v] w fun e w' => e = .returned (.bool true) ∧ w = w' := by
  have q := qmap
  rcases h with rfl | ⟨g, rfl, hB⟩
  · go_enter Try.func35, Try.ntmps35
    go_wp2_with fail
    go_ret
    exact ⟨rfl, rfl⟩
  · have k2 : w.cell? ⟨g, 1, none⟩ = some (.map none) := by rw [hB.cell]; rfl
    clear hB
    go_enter Try.func35, Try.ntmps35
    go_wp2_with fail
    go_ret
    exact ⟨rfl, rfl⟩
set_option maxRecDepth 100000 in
theorem non_open {v : Value} {w : World} (h : NonP v w) (x y : Value) : Calls Try.prog 12 #[v, x, y] w fun e w' => e = .returned (.int .i64 1) ∧ w = w' := by
  go_enter Try.func12, Try.ntmps12
  go_wp2_with fail
  refine (non_none h).mono ?_
  rintro e w' ⟨rfl, rfl⟩
  go_wp2_with fail
  go_ret
  exact ⟨rfl, rfl⟩
set_option maxRecDepth 100000 in
theorem non_close {v : Value} {w : World} (h : NonP v w) (x : Nat) : Calls Try.prog 14 #[v, .int .u16 x] w fun e w' => e = .returned (.tuple #[.int .i64 0, .int .i64 1]) ∧ Below w.heap.size w w' := by
  have ha : ∀ o : Obj, Below w.heap.size w (w.alloc o) := fun o => (Below.refl _ w).alloc (Nat.le_refl _) o
  go_enter Try.func14, Try.ntmps14
  go_wp2_with fail
  refine (non_none (h.ext (ha _))).mono ?_
  rintro e w' ⟨rfl, rfl⟩
  go_wp2_with fail
  ((try simp only [Exit.inBlock, Exit.then]); refine bodyPost_ret (results_tmp2 rfl _ _ _) rfl ?_)
  exact ⟨rfl, ha _⟩
set_option maxRecDepth 100000 in
theorem non_keys {v : Value} {w : World} (h : NonP v w) : Calls Try.prog 16 #[v] w fun e w' => e = .returned (.slice none 0 0) ∧ w = w' := by
  go_enter Try.func16, Try.ntmps16
  go_wp2_with fail
  refine (non_none h).mono ?_
  rintro e w' ⟨rfl, rfl⟩
  go_wp2_with fail
  go_ret
  exact ⟨rfl, rfl⟩
set_option maxHeartbeats 16000000 in
set_option maxRecDepth 100000 in
theorem streamNone_walk (W : World) (bv : Value) (id : Nat) (_hid : id < 65536) : Calls Try.prog 7 #[bv, .int .u16 id] W fun e w' => e = .returned (.bool true) ∧ Below W.heap.size W w' := by
  go_enter Try.func7, Try.ntmps7
  go_wp2_with fail
  obtain ⟨wa, hwa⟩ : ∃ x, x = W.alloc (.cells #[.slice none 0 0, .bool false, .bool false] 63) := ⟨_, rfl⟩
  have sa : wa.heap.size = W.heap.size + 1 := by rw [hwa]; simp
  have Ba : Blk wa W.heap.size 63 (0, 0) [.slice none 0 0, .bool false, .bool false] := by rw [hwa]; exact Blk.new W 63 (0, 0) #[.slice none 0 0, .bool false, .bool false]
  have ka : Below W.heap.size W wa := by rw [hwa]; exact (Below.refl _ _).alloc (Nat.le_refl _) _
  rw [← hwa]
  obtain ⟨wb, hwb⟩ : ∃ x, x = wa.alloc (.cells #[.pointer none, .pointer (some ⟨W.heap.size, 0, none⟩)] 45) := ⟨_, rfl⟩
  have sb : wb.heap.size = W.heap.size + 1 + 1 := by rw [hwb]; simp [sa]
  have Bb : Blk wb (W.heap.size + 1) 45 (0, 0) [.pointer none, .pointer (some ⟨W.heap.size, 0, none⟩)] := by rw [hwb, ← sa]; exact Blk.new wa 45 (0, 0) #[.pointer none, .pointer (some ⟨W.heap.size, 0, none⟩)]
  have kb : Below wa.heap.size wa wb := by rw [hwb]; exact (Below.refl _ _).alloc (Nat.le_refl _) _
  rw [← hwb]
  obtain ⟨wc, hwc⟩ : ∃ x, x = wb.alloc (.cells #[.int .i64 0, .map none, .slice none 0 0] 68) := ⟨_, rfl⟩
  have sc : wc.heap.size = W.heap.size + 1 + 1 + 1 := by rw [hwc]; simp [sb]
  have Bc : Blk wc (W.heap.size + 1 + 1) 68 (0, 0) [.int .i64 0, .map none, .slice none 0 0] := by rw [hwc, ← sb]; exact Blk.new wb 68 (0, 0) #[.int .i64 0, .map none, .slice none 0 0]
  have kc : Below wb.heap.size wb wc := by rw [hwc]; exact (Below.refl _ _).alloc (Nat.le_refl _) _
  rw [← hwc]
  obtain ⟨wd, hwd⟩ : ∃ x, x = wc.alloc (.cells #[.pointer none, .pointer (some ⟨W.heap.size + 1 + 1, 0, none⟩)] 23) := ⟨_, rfl⟩
  have Bd : Blk wd (W.heap.size + 1 + 1 + 1) 23 (0, 0) [.pointer none, .pointer (some ⟨W.heap.size + 1 + 1, 0, none⟩)] := by rw [hwd, ← sc]; exact Blk.new wc 23 (0, 0) #[.pointer none, .pointer (some ⟨W.heap.size + 1 + 1, 0, none⟩)]
  have kd : Below wc.heap.size wc wd := by rw [hwd]; exact (Below.refl _ _).alloc (Nat.le_refl _) _
  rw [← hwd]
  have kcd : Below wb.heap.size wb wd := kc.trans (kd.mono kc.size)
  have kbd : Below wa.heap.size wa wd := kb.trans (kcd.mono kb.size)
  have kad : Below W.heap.size W wd := ka.trans (kbd.mono ka.size)
  have hBb := Lib.hid (Bb.below kcd Bb.lt)
  have hBd := Lib.hid Bd
  have hR0 : Hid (NonR (.pointer none) wd) := Lib.hid (.inl rfl)
  have hR1 : Hid (NonR (.pointer (some ⟨W.heap.size, 0, none⟩)) wd) := Lib.hid (.inr ⟨_, rfl, Ba.below kbd Ba.lt⟩)
  have hP0 : Hid (NonP (.pointer none) wd) := Lib.hid (.inl rfl)
  have hP1 : Hid (NonP (.pointer (some ⟨W.heap.size + 1 + 1, 0, none⟩)) wd) := Lib.hid (.inr ⟨_, rfl, Bc.below kd Bc.lt⟩)
  clear hwa hwb hwc hwd Ba Bb Bc Bd ka kb kc kd kcd kbd sa sb sc
  go_loopw [7] (fun i wr => ∃ k : Nat, k ≤ 2 ∧ i = .int .i64 k ∧ Below wd.heap.size wd wr) (fun i _ => 2 - (intOf i).toNat)
  case atStart => exact ⟨0, Nat.zero_le _, rfl, Below.refl _ _⟩
  case round =>
    obtain ⟨k, hk, rfl, hb⟩ := hrel
    match k, hk with
    | 0, _ =>
      have e1 : wr.cell? ⟨W.heap.size + 1, 0, none⟩ = some (.pointer none) := by rw [(hBb.out.below hb hBb.out.lt).cell]; rfl
      have e2 : wr.cell? ⟨W.heap.size + 1 + 1 + 1, 0, none⟩ = some (.pointer none) := by rw [(hBd.out.below hb hBd.out.lt).cell]; rfl
      have HR : Hid (NonR (.pointer none) wr) := Lib.hid (hR0.out.ext hb)
      have HP : Hid (NonP (.pointer none) wr) := Lib.hid (hP0.out.ext hb)
      go_wp2_with (go_at_call 24; refine (non_feed HR.out bv).mono ?_; rintro e w1 ⟨rfl, rfl⟩)
      refine (non_close HP.out id).mono ?_
      rintro e w3 ⟨rfl, k3⟩
      have hb3 : Below wd.heap.size wd w3 := hb.trans (k3.mono hb.size)
      have e3 : w3.cell? ⟨W.heap.size + 1, 0, none⟩ = some (.pointer none) := by rw [(hBb.out.below hb3 hBb.out.lt).cell]; rfl
      have e4 : w3.cell? ⟨W.heap.size + 1 + 1 + 1, 0, none⟩ = some (.pointer none) := by rw [(hBd.out.below hb3 hBd.out.lt).cell]; rfl
      have HR2 : Hid (NonR (.pointer none) w3) := Lib.hid (hR0.out.ext hb3)
      have HP2 : Hid (NonP (.pointer none) w3) := Lib.hid (hP0.out.ext hb3)
      clear e1 e2
      go_wp2_with (first | (go_at_call 24; refine (non_feed HR.out bv).mono ?_; rintro e w1 ⟨rfl, rfl⟩) | (go_at_call 27; refine (non_waiting HR2.out).mono ?_; rintro e w1 ⟨rfl, rfl⟩) | (go_at_call 28; refine (non_broken HR2.out).mono ?_; rintro e w1 ⟨rfl, rfl⟩) | (go_at_call 12; refine (non_open HP2.out _ _).mono ?_; rintro e w1 ⟨rfl, rfl⟩) | (go_at_call 16; refine (non_keys HP2.out).mono ?_; rintro e w1 ⟨rfl, rfl⟩))
      go_roundw
      case rel => exact ⟨1, by omega, rfl, hb3⟩
      case measure => simp [intOf]
    | 1, _ =>
      have e1 : wr.cell? ⟨W.heap.size + 1, 1, none⟩ = some (.pointer (some ⟨W.heap.size, 0, none⟩)) := by rw [(hBb.out.below hb hBb.out.lt).cell]; rfl
      have e2 : wr.cell? ⟨W.heap.size + 1 + 1 + 1, 1, none⟩ = some (.pointer (some ⟨W.heap.size + 1 + 1, 0, none⟩)) := by rw [(hBd.out.below hb hBd.out.lt).cell]; rfl
      have HR : Hid (NonR (.pointer (some ⟨W.heap.size, 0, none⟩)) wr) := Lib.hid (hR1.out.ext hb)
      have HP : Hid (NonP (.pointer (some ⟨W.heap.size + 1 + 1, 0, none⟩)) wr) := Lib.hid (hP1.out.ext hb)
      go_wp2_with (go_at_call 24; refine (non_feed HR.out bv).mono ?_; rintro e w1 ⟨rfl, rfl⟩)
      refine (non_close HP.out id).mono ?_
      rintro e w3 ⟨rfl, k3⟩
      have hb3 : Below wd.heap.size wd w3 := hb.trans (k3.mono hb.size)
      have e3 : w3.cell? ⟨W.heap.size + 1, 1, none⟩ = some (.pointer (some ⟨W.heap.size, 0, none⟩)) := by rw [(hBb.out.below hb3 hBb.out.lt).cell]; rfl
      have e4 : w3.cell? ⟨W.heap.size + 1 + 1 + 1, 1, none⟩ = some (.pointer (some ⟨W.heap.size + 1 + 1, 0, none⟩)) := by rw [(hBd.out.below hb3 hBd.out.lt).cell]; rfl
      have HR2 : Hid (NonR (.pointer (some ⟨W.heap.size, 0, none⟩)) w3) := Lib.hid (hR1.out.ext hb3)
      have HP2 : Hid (NonP (.pointer (some ⟨W.heap.size + 1 + 1, 0, none⟩)) w3) := Lib.hid (hP1.out.ext hb3)
      clear e1 e2
      go_wp2_with (first | (go_at_call 24; refine (non_feed HR.out bv).mono ?_; rintro e w1 ⟨rfl, rfl⟩) | (go_at_call 27; refine (non_waiting HR2.out).mono ?_; rintro e w1 ⟨rfl, rfl⟩) | (go_at_call 28; refine (non_broken HR2.out).mono ?_; rintro e w1 ⟨rfl, rfl⟩) | (go_at_call 12; refine (non_open HP2.out _ _).mono ?_; rintro e w1 ⟨rfl, rfl⟩) | (go_at_call 16; refine (non_keys HP2.out).mono ?_; rintro e w1 ⟨rfl, rfl⟩))
      go_roundw
      case rel => exact ⟨2, by omega, rfl, hb3⟩
      case measure => simp [intOf]
    | 2, _ =>
      go_wp2_with (go_at_call 32; refine (awake_any _).mono ?_; rintro e w1 ⟨rfl, k1⟩)
      go_ret
      exact ⟨rfl, kad.trans ((hb.mono kad.size).trans (k1.mono (by have := hb.size; have := kad.size; omega)))⟩
theorem streamNone_law {W : World} (a : Option Addr) (n c : Nat) (l : List UInt8) (_ : RB W a n c l) (x : Int) (hx : (Lit.int .u16 x).wf = true) (_ : World) :
    Calls Try.prog 7 #[.slice a n c, .int .u16 x] W fun e w' => e = .returned (.bool true) ∧ Below W.heap.size W w' := by
  have h1 : 0 ≤ x ∧ x < 65536 := by
    simp [Lit.wf, IntKind.min, IntKind.max, IntKind.signed, IntKind.bits] at hx
    omega
  obtain ⟨k, rfl⟩ : ∃ k : Nat, x = k := ⟨x.toNat, by omega⟩
  exact streamNone_walk W _ k (by omega)
end Go.Proofs.Ytmimbfikjnfhdaa
