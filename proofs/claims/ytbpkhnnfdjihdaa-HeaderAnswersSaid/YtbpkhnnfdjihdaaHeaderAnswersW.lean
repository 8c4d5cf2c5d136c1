/- The law HeaderAnswers, walked; printed by gen_hans.py. -/
import Derived.Test.YtbpkhnnfdjihdaaHdLg
import Derived.Test.YtbpkhnnfdjihdaaHdSm
import Derived.Test.YtbpkhnnfdjihdaaHdSo
import Derived.Test.YtbpkhnnfdjihdaaHdRef
import Derived.Deep.RegionHeld3
namespace Go.Proofs.Ytbpkhnnfdjihdaa
open Go Go.RowKit Go.Maps
set_option linter.unusedSimpArgs false
def RA (w : World) (act : Value → Value → Value → Value → Act) (bm : Nat) (C : List Value) (n : Nat) (e : Exit) (a' : Act) (w' : World) : Prop :=
  e = .normal ∧ ∃ (x30 x33 x35 x36 : Value) (a9 : Option Addr) (c9 : Nat), a' = act x30 x33 x35 x36 ∧ Blk w' bm 28 (0, 0) (C.set 10 (.slice a9 (n + 1) c9)) ∧ (w.os = w'.os ∧ w.tape = w'.tape ∧ w.output = w'.output ∧ w.heap.size ≤ w'.heap.size ∧ ∀ k, k < w.heap.size → k ≠ bm → w'.heap[k]? = w.heap[k]?)
theorem grown_below_set {w u v : World} {b : Nat} (hb : Below w.heap.size w u) (hg : u.grownBy v (some b)) : w.os = v.os ∧ w.tape = v.tape ∧ w.output = v.output ∧ w.heap.size ≤ v.heap.size ∧ ∀ k, k < w.heap.size → k ≠ b → v.heap[k]? = w.heap[k]? :=
  ⟨(hg.os.trans hb.os).symm, (hg.tape.trans hb.tape).symm, (hg.output.trans hb.output).symm, Nat.le_trans hb.size hg.size, fun k hk hne => (hg.block k (Nat.lt_of_lt_of_le hk hb.size) (fun e => hne (Option.some.inj e))).trans (hb.block k hk)⟩
set_option maxHeartbeats 16000000 in
set_option maxRecDepth 100000 in
theorem headerAnswers_walk {W : World} (id : Nat) (op rc : Int) (F : Nat → Bool) {a : Option Addr} {n c : Nat} {R : List QD} (hR : Rd qE W a n c R) (hN : ∀ q ∈ R, ∃ l, Nmr W q.na q.nn q.nc l) (a1 : Option Addr) (n1 c1 : Nat) (a2 : Option Addr) (n2 c2 : Nat) (a3 : Option Addr) (n3 c3 : Nat) (i2 : Nat) (qd : QD) :
    Calls Try.prog 6 #[mV id op rc F (.slice a n c) (.slice a1 n1 c1) (.slice a2 n2 c2) (.slice a3 n3 c3), .int .u16 (i2 : Int), .agg #[.slice qd.na qd.nn qd.nc, .int .u16 qd.t, .int .u16 qd.k]] W fun e w' => e = .returned (.bool true) ∧ Below W.heap.size W w' := by
  have hb0 : Below W.heap.size W ((W.alloc (.cells #[.int .u16 (id : Int), .bool (F 6), .int .i64 op, .bool (F 5), .bool (F 4), .bool (F 3), .bool (F 2), .bool (F 1), .bool (F 0), .int .i64 rc, .slice a n c, .slice a1 n1 c1, .slice a2 n2 c2, .slice a3 n3 c3] 28)).alloc (.cells #[.slice qd.na qd.nn qd.nc, .int .u16 qd.t, .int .u16 qd.k] 50)) := ((Below.refl _ _).alloc (Nat.le_refl _) _).alloc (by simp) _
  have hM0 : Blk ((W.alloc (.cells #[.int .u16 (id : Int), .bool (F 6), .int .i64 op, .bool (F 5), .bool (F 4), .bool (F 3), .bool (F 2), .bool (F 1), .bool (F 0), .int .i64 rc, .slice a n c, .slice a1 n1 c1, .slice a2 n2 c2, .slice a3 n3 c3] 28)).alloc (.cells #[.slice qd.na qd.nn qd.nc, .int .u16 qd.t, .int .u16 qd.k] 50)) W.heap.size 28 (0, 0) (cellsH id op rc F [.slice a n c, .slice a1 n1 c1, .slice a2 n2 c2, .slice a3 n3 c3]) := (Blk.new W 28 (0, 0) #[.int .u16 (id : Int), .bool (F 6), .int .i64 op, .bool (F 5), .bool (F 4), .bool (F 3), .bool (F 2), .bool (F 1), .bool (F 0), .int .i64 rc, .slice a n c, .slice a1 n1 c1, .slice a2 n2 c2, .slice a3 n3 c3]).alloc _
  have hQ0 : Blk ((W.alloc (.cells #[.int .u16 (id : Int), .bool (F 6), .int .i64 op, .bool (F 5), .bool (F 4), .bool (F 3), .bool (F 2), .bool (F 1), .bool (F 0), .int .i64 rc, .slice a n c, .slice a1 n1 c1, .slice a2 n2 c2, .slice a3 n3 c3] 28)).alloc (.cells #[.slice qd.na qd.nn qd.nc, .int .u16 qd.t, .int .u16 qd.k] 50)) (W.heap.size + 1) 50 (0, 0) [.slice qd.na qd.nn qd.nc, .int .u16 qd.t, .int .u16 qd.k] := by simpa using Blk.new (W.alloc (.cells #[.int .u16 (id : Int), .bool (F 6), .int .i64 op, .bool (F 5), .bool (F 4), .bool (F 3), .bool (F 2), .bool (F 1), .bool (F 0), .int .i64 rc, .slice a n c, .slice a1 n1 c1, .slice a2 n2 c2, .slice a3 n3 c3] 28)) 50 (0, 0) #[.slice qd.na qd.nn qd.nc, .int .u16 qd.t, .int .u16 qd.k]
  have hWW := Lib.hid (And.intro hb0 (And.intro hM0 hQ0))
  have hRR := Lib.hid (And.intro hR hN)
  clear hb0 hM0 hQ0 hR hN
  unfold mV
  go_enter Try.func6, Try.ntmps6
  go_wp2_with fail
  generalize ((W.alloc (.cells #[.int .u16 (id : Int), .bool (F 6), .int .i64 op, .bool (F 5), .bool (F 4), .bool (F 3), .bool (F 2), .bool (F 1), .bool (F 0), .int .i64 rc, .slice a n c, .slice a1 n1 c1, .slice a2 n2 c2, .slice a3 n3 c3] 28)).alloc (.cells #[.slice qd.na qd.nn qd.nc, .int .u16 qd.t, .int .u16 qd.k] 50)) = w0 at *
  obtain ⟨hb0, hM0, hQ0⟩ := hWW.out
  clear hWW
  refine awake_any.mono ?_
  rintro e w1 ⟨rfl, hb1⟩
  have hb2 := Lib.hid (hb0.trans (hb1.mono hb0.size))
  have hM1 := Lib.hid (hM0.below hb1 hM0.lt)
  have hQ1 := Lib.hid (hQ0.below hb1 hQ0.lt)
  clear hb0 hM0 hQ0 hb1
  go_wp2_with (refine load_whole rfl 28 (.tmp 3) rfl rfl hM1.out Try.underlying28 rfl (by kernel_rfl) ?_)
  refine (large_any id op rc F (hRR.out.1.ext hb2.out) a1 n1 c1 a2 n2 c2 a3 n3 c3).mono ?_
  rintro e w2 ⟨⟨lg, rfl, hlg⟩, hb3⟩
  have hb4 := Lib.hid (hb2.out.trans (hb3.mono hb2.out.size))
  have hM2 := Lib.hid (hM1.out.below hb3 hM1.out.lt)
  have hQ2 := Lib.hid (hQ1.out.below hb3 hQ1.out.lt)
  have hlg' := Lib.hid hlg
  have cq0 : w2.cell? ⟨W.heap.size + 1, 0, none⟩ = some (.slice qd.na qd.nn qd.nc) := (hQ2.out.cell 0).trans rfl
  clear hb2 hb3 hM1 hQ1 hlg
  cases lg
  · obtain ⟨hn20, hq130⟩ := hlg'.out rfl
    clear hlg'
    by_cases h130 : qd.nn ≤ 130
    · have h130I : ¬ (130 : Int) < qd.nn := by omega
      have hsz2 : W.heap.size + 1 < w2.heap.size := hQ2.out.lt
      have m0 : w2.cell? ⟨W.heap.size, 0, none⟩ = some (.int .u16 (id : Int)) := (hM2.out.cell 0).trans rfl
      have m2 : w2.cell? ⟨W.heap.size, 2, none⟩ = some (.int .i64 op) := (hM2.out.cell 2).trans rfl
      have m10 : w2.cell? ⟨W.heap.size, 10, none⟩ = some (.slice a n c) := (hM2.out.cell 10).trans rfl
      have hbA : Below W.heap.size W (w2.alloc (.cells #[.int .u16 (id : Int), .bool false, .int .i64 op, .bool false, .bool false, .bool false, .bool false, .bool false, .bool false, .int .i64 0, .slice a n c, .slice none 0 0, .slice none 0 0, .slice none 0 0] 28)) := hb4.out.alloc (by omega) _
      have hMA : Blk (w2.alloc (.cells #[.int .u16 (id : Int), .bool false, .int .i64 op, .bool false, .bool false, .bool false, .bool false, .bool false, .bool false, .int .i64 0, .slice a n c, .slice none 0 0, .slice none 0 0, .slice none 0 0] 28)) W.heap.size 28 (0, 0) (cellsH id op rc F [.slice a n c, .slice a1 n1 c1, .slice a2 n2 c2, .slice a3 n3 c3]) := hM2.out.alloc _
      have hQA : Blk (w2.alloc (.cells #[.int .u16 (id : Int), .bool false, .int .i64 op, .bool false, .bool false, .bool false, .bool false, .bool false, .bool false, .int .i64 0, .slice a n c, .slice none 0 0, .slice none 0 0, .slice none 0 0] 28)) (W.heap.size + 1) 50 (0, 0) [.slice qd.na qd.nn qd.nc, .int .u16 qd.t, .int .u16 qd.k] := hQ2.out.alloc _
      have hTA : Blk (w2.alloc (.cells #[.int .u16 (id : Int), .bool false, .int .i64 op, .bool false, .bool false, .bool false, .bool false, .bool false, .bool false, .int .i64 0, .slice a n c, .slice none 0 0, .slice none 0 0, .slice none 0 0] 28)) w2.heap.size 28 (0, 0) (#[.int .u16 (id : Int), .bool false, .int .i64 op, .bool false, .bool false, .bool false, .bool false, .bool false, .bool false, .int .i64 0, .slice a n c, .slice none 0 0, .slice none 0 0, .slice none 0 0] : Array Value).toList := Blk.new w2 28 (0, 0) #[.int .u16 (id : Int), .bool false, .int .i64 op, .bool false, .bool false, .bool false, .bool false, .bool false, .bool false, .int .i64 0, .slice a n c, .slice none 0 0, .slice none 0 0, .slice none 0 0]
      have hsA : (w2.alloc (.cells #[.int .u16 (id : Int), .bool false, .int .i64 op, .bool false, .bool false, .bool false, .bool false, .bool false, .bool false, .int .i64 0, .slice a n c, .slice none 0 0, .slice none 0 0, .slice none 0 0] 28)).heap.size = w2.heap.size + 1 := by simp
      have hAA := Lib.hid (And.intro hbA (And.intro hMA (And.intro hQA (And.intro hTA hsA))))
      clear hbA hMA hQA hTA hsA hb4 hM2 hQ2
      go_wp2_with (first
        | (refine store_one rfl 4 (.tmp 28) (.const (.bool true)) rfl rfl rfl hAA.out.2.1 (by exact (by decide : 1 < 14)) (by kernel_rfl) rfl ?_; intro wa hBa hga hsa; obtain ⟨hbA, hMA, hQA, hTA, hsA⟩ := hAA.out; have hb5 := Lib.hid (below1 hbA (Nat.le_refl _) hbA.size hga); have hMa : Hid (Blk wa W.heap.size 28 (0, 0) (#[.int .u16 (id : Int), .bool true, .int .i64 op, .bool (F 5), .bool (F 4), .bool (F 3), .bool (F 2), .bool (F 1), .bool (F 0), .int .i64 rc, .slice a n c, .slice a1 n1 c1, .slice a2 n2 c2, .slice a3 n3 c3] : Array Value).toList) := Lib.hid hBa; have hQa := Lib.hid ((keep1 hga hQA.lt (by omega)).trans hQA); have hTa := Lib.hid ((keep1 hga hTA.lt (by omega)).trans hTA); have hza := Lib.hid (hsa.trans hsA); clear hBa hga hsa hbA hMA hQA hTA hsA hAA)
        | (refine load_whole rfl 28 (.tmp 3) rfl rfl hMa.out Try.underlying28 rfl (by kernel_rfl) ?_))
      have hbS : Below W.heap.size W (wa.alloc (.cells #[.int .u16 (id : Int), .bool true, .int .i64 op, .bool (F 5), .bool (F 4), .bool (F 3), .bool (F 2), .bool (F 1), .bool (F 0), .int .i64 rc, .slice a n c, .slice a1 n1 c1, .slice a2 n2 c2, .slice a3 n3 c3] 28)) := hb5.out.alloc hb5.out.size _
      have hMS : Blk (wa.alloc (.cells #[.int .u16 (id : Int), .bool true, .int .i64 op, .bool (F 5), .bool (F 4), .bool (F 3), .bool (F 2), .bool (F 1), .bool (F 0), .int .i64 rc, .slice a n c, .slice a1 n1 c1, .slice a2 n2 c2, .slice a3 n3 c3] 28)) W.heap.size 28 (0, 0) (#[.int .u16 (id : Int), .bool true, .int .i64 op, .bool (F 5), .bool (F 4), .bool (F 3), .bool (F 2), .bool (F 1), .bool (F 0), .int .i64 rc, .slice a n c, .slice a1 n1 c1, .slice a2 n2 c2, .slice a3 n3 c3] : Array Value).toList := hMa.out.alloc _
      have hQS : Blk (wa.alloc (.cells #[.int .u16 (id : Int), .bool true, .int .i64 op, .bool (F 5), .bool (F 4), .bool (F 3), .bool (F 2), .bool (F 1), .bool (F 0), .int .i64 rc, .slice a n c, .slice a1 n1 c1, .slice a2 n2 c2, .slice a3 n3 c3] 28)) (W.heap.size + 1) 50 (0, 0) [.slice qd.na qd.nn qd.nc, .int .u16 qd.t, .int .u16 qd.k] := Blk.alloc hQa.out _
      have hTS : Blk (wa.alloc (.cells #[.int .u16 (id : Int), .bool true, .int .i64 op, .bool (F 5), .bool (F 4), .bool (F 3), .bool (F 2), .bool (F 1), .bool (F 0), .int .i64 rc, .slice a n c, .slice a1 n1 c1, .slice a2 n2 c2, .slice a3 n3 c3] 28)) w2.heap.size 28 (0, 0) (#[.int .u16 (id : Int), .bool false, .int .i64 op, .bool false, .bool false, .bool false, .bool false, .bool false, .bool false, .int .i64 0, .slice a n c, .slice none 0 0, .slice none 0 0, .slice none 0 0] : Array Value).toList := Blk.alloc hTa.out _
      have hOS : Blk (wa.alloc (.cells #[.int .u16 (id : Int), .bool true, .int .i64 op, .bool (F 5), .bool (F 4), .bool (F 3), .bool (F 2), .bool (F 1), .bool (F 0), .int .i64 rc, .slice a n c, .slice a1 n1 c1, .slice a2 n2 c2, .slice a3 n3 c3] 28)) wa.heap.size 28 (0, 0) (#[.int .u16 (id : Int), .bool true, .int .i64 op, .bool (F 5), .bool (F 4), .bool (F 3), .bool (F 2), .bool (F 1), .bool (F 0), .int .i64 rc, .slice a n c, .slice a1 n1 c1, .slice a2 n2 c2, .slice a3 n3 c3] : Array Value).toList := Blk.new wa 28 (0, 0) #[.int .u16 (id : Int), .bool true, .int .i64 op, .bool (F 5), .bool (F 4), .bool (F 3), .bool (F 2), .bool (F 1), .bool (F 0), .int .i64 rc, .slice a n c, .slice a1 n1 c1, .slice a2 n2 c2, .slice a3 n3 c3]
      have hzS : (wa.alloc (.cells #[.int .u16 (id : Int), .bool true, .int .i64 op, .bool (F 5), .bool (F 4), .bool (F 3), .bool (F 2), .bool (F 1), .bool (F 0), .int .i64 rc, .slice a n c, .slice a1 n1 c1, .slice a2 n2 c2, .slice a3 n3 c3] 28)).heap.size = wa.heap.size + 1 := by simp
      have hSS := Lib.hid (And.intro hbS (And.intro hMS (And.intro hQS (And.intro hTS (And.intro hOS hzS)))))
      clear hbS hMS hQS hTS hOS hzS hb5 hMa hQa hTa m0 m2 m10 cq0
      generalize (wa.alloc (.cells #[.int .u16 (id : Int), .bool true, .int .i64 op, .bool (F 5), .bool (F 4), .bool (F 3), .bool (F 2), .bool (F 1), .bool (F 0), .int .i64 rc, .slice a n c, .slice a1 n1 c1, .slice a2 n2 c2, .slice a3 n3 c3] 28)) = wS at *
      obtain ⟨hbS, hMS, hQS, hTS, hOS, hzS⟩ := hSS.out
      clear hSS
      have hbS' := Lib.hid hbS
      have hMS' := Lib.hid hMS
      have hQS' := Lib.hid hQS
      have hTS' := Lib.hid hTS
      have hOS' := Lib.hid hOS
      have hzS' := Lib.hid hzS
      clear hbS hMS hQS hTS hOS hzS
      refine Code.wp_mono (Q := RA wS.drew (fun x30 x33 x35 x36 => ⟨#[Value.agg #[Value.int IntKind.u16 (id : Int), Value.bool (F 6), Value.int IntKind.i64 op, Value.bool (F 5), Value.bool (F 4), Value.bool (F 3), Value.bool (F 2), Value.bool (F 1), Value.bool (F 0), Value.int IntKind.i64 rc, Value.slice a n c, Value.slice a1 n1 c1, Value.slice a2 n2 c2, Value.slice a3 n3 c3], Value.int IntKind.u16 (i2 : Int), Value.agg #[Value.slice qd.na qd.nn qd.nc, Value.int IntKind.u16 qd.t, Value.int IntKind.u16 qd.k], Value.pointer (some { block := W.heap.size, off := 0 }), undef, Value.pointer (some { block := W.heap.size + 1, off := 0 }), Value.bool false, Value.bool true, Value.pointer (some { block := w2.heap.size, off := 0 }), Value.pointer (some { block := wa.heap.size, off := 0 }), undef, Value.bool true, Value.agg (cellsH (id : Int) op rc F [Value.slice a n c, Value.slice a1 n1 c1, Value.slice a2 n2 c2, Value.slice a3 n3 c3]).toArray, Value.bool false, Value.bool false, Value.pointer (some { block := W.heap.size + 1, off := 0 }), Value.slice qd.na qd.nn qd.nc, Value.int IntKind.i64 (qd.nn : Int), Value.bool (decide (130 < (qd.nn : Int))), Value.bool (decide (130 < (qd.nn : Int))), undef, Value.pointer (some { block := W.heap.size, off := 0 }), Value.int IntKind.u16 (id : Int), Value.pointer (some { block := W.heap.size, off := 2 }), Value.int IntKind.i64 op, Value.pointer (some { block := W.heap.size, off := 10 }), Value.slice a n c, Value.agg #[Value.int IntKind.u16 (id : Int), Value.bool false, Value.int IntKind.i64 op, Value.bool false, Value.bool false, Value.bool false, Value.bool false, Value.bool false, Value.bool false, Value.int IntKind.i64 0, Value.slice a n c, Value.slice none 0 0, Value.slice none 0 0, Value.slice none 0 0], Value.pointer (some { block := W.heap.size, off := 1 }), Value.agg #[Value.int IntKind.u16 (id : Int), Value.bool true, Value.int IntKind.i64 op, Value.bool (F 5), Value.bool (F 4), Value.bool (F 3), Value.bool (F 2), Value.bool (F 1), Value.bool (F 0), Value.int IntKind.i64 rc, Value.slice a n c, Value.slice a1 n1 c1, Value.slice a2 n2 c2, Value.slice a3 n3 c3], x30, .pointer (some ⟨W.heap.size, 10, none⟩), .slice a n c, x33, .agg #[.slice qd.na qd.nn qd.nc, .int .u16 qd.t, .int .u16 qd.k], x35, x36, .pointer (some ⟨wa.heap.size, 10, none⟩), undef, undef, undef, undef, undef, undef, undef, undef, undef, undef, undef, undef, undef, undef, undef, undef, undef, undef, undef, undef, undef, undef, undef, undef, undef, undef, undef, undef, undef, undef, undef], []⟩) wa.heap.size (#[.int .u16 (id : Int), .bool true, .int .i64 op, .bool (F 5), .bool (F 4), .bool (F 3), .bool (F 2), .bool (F 1), .bool (F 0), .int .i64 rc, .slice a n c, .slice a1 n1 c1, .slice a2 n2 c2, .slice a3 n3 c3] : Array Value).toList n) ?imp ?wp
      case wp =>
        have hSB : ∀ u, Below wS.drew.heap.size wS.drew u → u.cell? ⟨W.heap.size, 10, none⟩ = some (.slice a n c) ∧ Blk u (W.heap.size + 1) 50 (0, 0) [.slice qd.na qd.nn qd.nc, .int .u16 qd.t, .int .u16 qd.k] := fun u h =>
          ⟨(((hMS'.out.drew.below h hMS'.out.drew.lt)).cell 10).trans rfl, hQS'.out.drew.below h hQS'.out.drew.lt⟩
        have hSB := Lib.hid hSB
        have hS1 : ∀ u : World, (u.cell? ⟨W.heap.size, 10, none⟩ = some (.slice a n c) ∧ Blk u (W.heap.size + 1) 50 (0, 0) [.slice qd.na qd.nn qd.nc, .int .u16 qd.t, .int .u16 qd.k]) → u.rangeAt (W.heap.size + 1) 0 [.slice qd.na qd.nn qd.nc, .int .u16 qd.t, .int .u16 qd.k] := fun u h => range_of h.2
        refine wp_region_noPanic ?_
        refine wp_region_held_drew (S := fun u => u.cell? ⟨W.heap.size, 10, none⟩ = some (.slice a n c) ∧ Blk u (W.heap.size + 1) 50 (0, 0) [.slice qd.na qd.nn qd.nc, .int .u16 qd.t, .int .u16 qd.k]) (by kernel_rfl) (hSB.out _ (Below.refl _ _)) (fun hHeld => ?_)
        have hRS : Rd qE wS.drew a n c R := (hRR.out.1.ext hbS'.out.drew)
        have hRS' := Lib.hid hRS
        have hOd := Lib.hid hOS'.out.drew
        have hzd : Hid (wS.drew.heap.size = wa.heap.size + 1) := Lib.hid hzS'.out
        clear hRS
        generalize wS.drew = w4 at *
        have hB4 : Hid (Below w4.heap.size w4 w4) := Lib.hid (Below.refl _ _)
        refine wpAnyH_take (i := 1) (oi := { dst := some 31, op := Op.fieldAddr 28 (Operand.tmp 3) 10, type := 0, pos := _, after := #[], guard := none }) (v := ?_) rfl (by kernel_rfl) (by kernel_rfl) (by kernel_rfl) (fun _ _ _ h => h) (Or.inl ⟨by rfl, ?_⟩) (by assumption) ?_
        rotate_left
        · intro w hSw
          go_simp
          first | done | with_reducible rfl
        try simp only [Act.put, List.setIfInBounds_toArray, List.set_cons_zero, List.set_cons_succ]
        refine wpAnyH_take (i := 2) (oi := { dst := some 32, op := Op.load 25 (Operand.tmp 31), type := 25, pos := _, after := #[{ on := 1, ground := Ground.data }], guard := none }) (v := ?_) rfl (by kernel_rfl) (by kernel_rfl) (by kernel_rfl) (fun _ _ _ h => h) (Or.inl ⟨by rfl, ?_⟩) (by assumption) ?_
        rotate_left
        · intro w hSw
          go_simp
          first | done | with_reducible rfl
        try simp only [Act.put, List.setIfInBounds_toArray, List.set_cons_zero, List.set_cons_succ]
        refine wpAnyH_take (i := 4) (oi := { dst := some 34, op := Op.load 50 (Operand.tmp 5), type := 50, pos := _, after := #[], guard := none }) (v := _) rfl (by kernel_rfl) (by kernel_rfl) (by kernel_rfl) (fun _ _ _ h => h) (yieldsIf_load_mid (by rfl) 50 (.tmp 5) rfl (W.heap.size + 1) 0 rfl _ _ hS1 Try.underlying50 rfl (by kernel_rfl)) hHeld ?_
        try simp only [Act.put, List.setIfInBounds_toArray, List.set_cons_zero, List.set_cons_succ]
        have hSB7 : ∀ {u v : World}, u.grownBy v (some wa.heap.size) → Below w4.heap.size w4 u → v.cell? ⟨W.heap.size, 10, none⟩ = some (.slice a n c) ∧ Blk v (W.heap.size + 1) 50 (0, 0) [.slice qd.na qd.nn qd.nc, .int .u16 qd.t, .int .u16 qd.k] := fun {u v} hg hb => ⟨(World.cell?_of_block (hg.block _ (by have := hb.size; have := hzd.out; have := hza.out; show W.heap.size < _; omega) (fun e => by have h9 : W.heap.size = wa.heap.size := Option.some.inj e; have := hza.out; omega))).trans (hSB.out _ hb).1, (hg.block _ (by have := hb.size; have := hzd.out; have := hza.out; omega) (fun e => by have := Option.some.inj e; have := hza.out; omega)).trans (hSB.out _ hb).2⟩
        refine wpAnyH_ready (rs := [0, 5]) (by kernel_rfl) (by simp) ?_
        refine AllReadyH.cons (o := { dst := some 30, op := Op.buildSlice 25 0 #[], type := 25, pos := _, after := #[], guard := none }) rfl (fun K hK => ?_) ?_
        · go_simp
          obtain ⟨X0, hX0⟩ : ∃ u, w4.alloc (.cells #[] 50) = u := ⟨_, rfl⟩
          have hbX0 : Hid (Below w4.heap.size w4 X0) := by rw [← hX0]; exact Lib.hid (hB4.out.alloc hB4.out.size _)
          have hOX0 : Hid (Own qE X0 w4.heap.size (.slice (some ⟨w4.heap.size, 0, none⟩) 0 0) []) := by rw [← hX0]; exact Lib.hid ((Own.made qE w4 #[] [] 0 rfl rfl (Nat.zero_le _)).mono hB4.out.size)
          have hzX0 : Hid (X0.heap.size = w4.heap.size + 1) := by rw [← hX0]; exact Lib.hid (by simp)
          go_wp2_with fail
          try rw [hX0]
          refine hK.out _ _ (hSB.out _ hbX0.out) (fun hHeld => ?_)
          clear hK K
          try simp only [Act.put, List.setIfInBounds_toArray, List.set_cons_zero, List.set_cons_succ]
          refine wpAnyH_ready (rs := [3, 5]) (by kernel_rfl) (by simp) ?_
          refine AllReadyH.cons (o := { dst := some 33, op := Op.call { callee := Callee.builtin Builtin.append, args := #[Operand.tmp 30, Operand.tmp 32], argTypes := #[25, 25] }, type := 25, pos := _, after := #[{ on := 0, ground := Ground.data }, { on := 2, ground := Ground.data }], guard := none }) rfl (fun K hK => ?_) ?_
          · refine step_q (v := .slice (some ⟨w4.heap.size, 0, none⟩) 0 0) (B := w4.heap.size) rfl (.tmp 30) (.tmp 32) rfl rfl rfl hOX0.out (hRS'.out.ext hbX0.out) (by simp; omega) hbX0.out.size ?_
            intro v33 X1 hOx hgx
            have hOX1 := Lib.hid hOx
            have hbX1 := Lib.hid (own_below hbX0.out hgx hOX0.out hbX0.out.size (Nat.le_refl _))
            refine hK.out _ _ (hSB.out _ hbX1.out) (fun hHeld => ?_)
            clear hK K
            try simp only [Act.put, List.setIfInBounds_toArray, List.set_cons_zero, List.set_cons_succ]
            refine wpAnyH_ready (rs := [5]) (by kernel_rfl) (by simp) ?_
            refine AllReadyH.cons (o := { dst := some 35, op := Op.buildSlice 25 1 #[(0, Operand.tmp 34)], type := 25, pos := _, after := #[{ on := 4, ground := Ground.data }], guard := none }) rfl (fun K hK => ?_) ?_
            · go_simp
              obtain ⟨X2, hX2⟩ : ∃ u, X1.alloc (.cells #[.slice qd.na qd.nn qd.nc, .int .u16 qd.t, .int .u16 qd.k] 50) = u := ⟨_, rfl⟩
              have hbX2 : Hid (Below w4.heap.size w4 X2) := by rw [← hX2]; exact Lib.hid (hbX1.out.alloc hbX1.out.size _)
              have hLX2 : Hid (Blk X2 X1.heap.size 50 (0, 0) [.slice qd.na qd.nn qd.nc, .int .u16 qd.t, .int .u16 qd.k]) := by rw [← hX2]; exact Lib.hid (Blk.new X1 50 (0, 0) #[.slice qd.na qd.nn qd.nc, .int .u16 qd.t, .int .u16 qd.k])
              have hOX2 : Hid (Own qE X2 w4.heap.size v33 ([] ++ R)) := by rw [← hX2]; exact Lib.hid (hOX1.out.ext ((Below.refl _ _).alloc (Nat.le_refl _) _))
              have hzX2 : Hid (X2.heap.size = X1.heap.size + 1) := by rw [← hX2]; exact Lib.hid (by simp)
              go_wp2_with fail
              try rw [hX2]
              refine hK.out _ _ (hSB.out _ hbX2.out) (fun hHeld => ?_)
              clear hK K
              try simp only [Act.put, List.setIfInBounds_toArray, List.set_cons_zero, List.set_cons_succ]
              refine wpAnyH_ready (rs := [6]) (by kernel_rfl) (by simp) ?_
              refine AllReadyH.cons (o := { dst := some 36, op := Op.call { callee := Callee.builtin Builtin.append, args := #[Operand.tmp 33, Operand.tmp 35], argTypes := #[25, 25] }, type := 25, pos := _, after := #[{ on := 3, ground := Ground.data }, { on := 5, ground := Ground.data }, { on := 3, ground := Ground.chain }], guard := none }) rfl (fun K hK => ?_) ?_
              · refine step_q (v := v33) (B := w4.heap.size) rfl (.tmp 33) (.tmp 35) rfl rfl rfl hOX2.out (rd_blk (E := qE) (X := [qd]) hLX2.out 1 rfl (by decide)) (by have := hRS'.out.len; simp; omega) hbX2.out.size ?_
                intro v36 X6 hO6 hg6
                have hb6 := own_below hbX2.out hg6 hOX2.out hbX2.out.size (Nat.le_refl _)
                refine hK.out _ _ (hSB.out _ hb6) (fun hHeld => ?_)
                clear hK K
                try simp only [Act.put, List.setIfInBounds_toArray, List.set_cons_zero, List.set_cons_succ]
                refine wpAnyH_take (i := 7) (oi := { dst := some 37, op := Op.fieldAddr 28 (Operand.tmp 9) 10, type := 0, pos := _, after := #[{ on := 0, ground := Ground.phase }, { on := 1, ground := Ground.phase }, { on := 2, ground := Ground.phase }, { on := 3, ground := Ground.phase }, { on := 4, ground := Ground.phase }, { on := 5, ground := Ground.phase }, { on := 6, ground := Ground.phase }], guard := none }) (v := ?_) rfl (by kernel_rfl) (by kernel_rfl) (by kernel_rfl) (fun _ _ _ h => h) (Or.inl ⟨by rfl, ?_⟩) (by assumption) ?_
                rotate_left
                · intro w hSw
                  go_simp
                  first | done | with_reducible rfl
                try simp only [Act.put, List.setIfInBounds_toArray, List.set_cons_zero, List.set_cons_succ]
                refine wpAnyH_ready (rs := [8]) (by kernel_rfl) (by simp) ?_
                refine AllReadyH.cons (o := { dst := none, op := Op.store 25 (Operand.tmp 37) (Operand.tmp 36), type := 0, pos := _, after := #[{ on := 7, ground := Ground.data }, { on := 6, ground := Ground.data }, { on := 6, ground := Ground.chain }, { on := 0, ground := Ground.phase }, { on := 1, ground := Ground.phase }, { on := 2, ground := Ground.phase }, { on := 3, ground := Ground.phase }, { on := 4, ground := Ground.phase }, { on := 5, ground := Ground.phase }, { on := 6, ground := Ground.phase }], guard := none }) rfl (fun K hK => ?_) ?_
                · rw [if_pos (by rfl)]
                  obtain ⟨a9, c9, rfl⟩ := hO6.shape
                  have hOm := hOd.out.below hb6 hOd.out.lt
                  refine store_one_op 25 (.tmp 37) (.tmp 36) rfl rfl rfl hOm (by exact (by decide : 10 < 14)) (by kernel_rfl) rfl ?_
                  intro X7 hB7 hg7 hz7
                  refine hK.out _ _ (hSB7 hg7 hb6) (fun hHeld => ?_)
                  clear hK K
                  try simp only [Act.put, List.setIfInBounds_toArray, List.set_cons_zero, List.set_cons_succ]
                  refine wpAnyH_done (by kernel_rfl) ?_ _
                  refine NoPanic.normal ?_
                  have hlen : ([] ++ R ++ [qd]).length = n + 1 := by simp [hRS'.out.len]
                  exact ⟨rfl, _, _, _, _, a9, c9, rfl, by rw [← hlen]; exact hB7, grown_below_set hb6 hg7⟩
                exact AllReadyH.nil
              exact AllReadyH.nil
            exact AllReadyH.nil
          refine AllReadyH.cons (o := { dst := some 35, op := Op.buildSlice 25 1 #[(0, Operand.tmp 34)], type := 25, pos := _, after := #[{ on := 4, ground := Ground.data }], guard := none }) rfl (fun K hK => ?_) ?_
          · go_simp
            obtain ⟨X1, hX1⟩ : ∃ u, X0.alloc (.cells #[.slice qd.na qd.nn qd.nc, .int .u16 qd.t, .int .u16 qd.k] 50) = u := ⟨_, rfl⟩
            have hbX1 : Hid (Below w4.heap.size w4 X1) := by rw [← hX1]; exact Lib.hid (hbX0.out.alloc hbX0.out.size _)
            have hLX1 : Hid (Blk X1 X0.heap.size 50 (0, 0) [.slice qd.na qd.nn qd.nc, .int .u16 qd.t, .int .u16 qd.k]) := by rw [← hX1]; exact Lib.hid (Blk.new X0 50 (0, 0) #[.slice qd.na qd.nn qd.nc, .int .u16 qd.t, .int .u16 qd.k])
            have hOX1 : Hid (Own qE X1 w4.heap.size (.slice (some ⟨w4.heap.size, 0, none⟩) 0 0) []) := by rw [← hX1]; exact Lib.hid (hOX0.out.ext ((Below.refl _ _).alloc (Nat.le_refl _) _))
            have hzX1 : Hid (X1.heap.size = X0.heap.size + 1) := by rw [← hX1]; exact Lib.hid (by simp)
            go_wp2_with fail
            try rw [hX1]
            refine hK.out _ _ (hSB.out _ hbX1.out) (fun hHeld => ?_)
            clear hK K
            try simp only [Act.put, List.setIfInBounds_toArray, List.set_cons_zero, List.set_cons_succ]
            refine wpAnyH_ready (rs := [3]) (by kernel_rfl) (by simp) ?_
            refine AllReadyH.cons (o := { dst := some 33, op := Op.call { callee := Callee.builtin Builtin.append, args := #[Operand.tmp 30, Operand.tmp 32], argTypes := #[25, 25] }, type := 25, pos := _, after := #[{ on := 0, ground := Ground.data }, { on := 2, ground := Ground.data }], guard := none }) rfl (fun K hK => ?_) ?_
            · refine step_q (v := .slice (some ⟨w4.heap.size, 0, none⟩) 0 0) (B := w4.heap.size) rfl (.tmp 30) (.tmp 32) rfl rfl rfl hOX1.out (hRS'.out.ext hbX1.out) (by simp; omega) hbX1.out.size ?_
              intro v33 X2 hOx hgx
              have hOX2 := Lib.hid hOx
              have hbX2 := Lib.hid (own_below hbX1.out hgx hOX1.out hbX1.out.size (Nat.le_refl _))
              have hLX2 : Hid (Blk X2 X0.heap.size 50 (0, 0) [.slice qd.na qd.nn qd.nc, .int .u16 qd.t, .int .u16 qd.k]) := Lib.hid ((hgx.block _ hLX1.out.lt (fun e => by have := hzX0.out; simp [Value.ownBlock] at e; omega)).trans hLX1.out)
              refine hK.out _ _ (hSB.out _ hbX2.out) (fun hHeld => ?_)
              clear hK K
              try simp only [Act.put, List.setIfInBounds_toArray, List.set_cons_zero, List.set_cons_succ]
              refine wpAnyH_ready (rs := [6]) (by kernel_rfl) (by simp) ?_
              refine AllReadyH.cons (o := { dst := some 36, op := Op.call { callee := Callee.builtin Builtin.append, args := #[Operand.tmp 33, Operand.tmp 35], argTypes := #[25, 25] }, type := 25, pos := _, after := #[{ on := 3, ground := Ground.data }, { on := 5, ground := Ground.data }, { on := 3, ground := Ground.chain }], guard := none }) rfl (fun K hK => ?_) ?_
              · refine step_q (v := v33) (B := w4.heap.size) rfl (.tmp 33) (.tmp 35) rfl rfl rfl hOX2.out (rd_blk (E := qE) (X := [qd]) hLX2.out 1 rfl (by decide)) (by have := hRS'.out.len; simp; omega) hbX2.out.size ?_
                intro v36 X6 hO6 hg6
                have hb6 := own_below hbX2.out hg6 hOX2.out hbX2.out.size (Nat.le_refl _)
                refine hK.out _ _ (hSB.out _ hb6) (fun hHeld => ?_)
                clear hK K
                try simp only [Act.put, List.setIfInBounds_toArray, List.set_cons_zero, List.set_cons_succ]
                refine wpAnyH_take (i := 7) (oi := { dst := some 37, op := Op.fieldAddr 28 (Operand.tmp 9) 10, type := 0, pos := _, after := #[{ on := 0, ground := Ground.phase }, { on := 1, ground := Ground.phase }, { on := 2, ground := Ground.phase }, { on := 3, ground := Ground.phase }, { on := 4, ground := Ground.phase }, { on := 5, ground := Ground.phase }, { on := 6, ground := Ground.phase }], guard := none }) (v := ?_) rfl (by kernel_rfl) (by kernel_rfl) (by kernel_rfl) (fun _ _ _ h => h) (Or.inl ⟨by rfl, ?_⟩) (by assumption) ?_
                rotate_left
                · intro w hSw
                  go_simp
                  first | done | with_reducible rfl
                try simp only [Act.put, List.setIfInBounds_toArray, List.set_cons_zero, List.set_cons_succ]
                refine wpAnyH_ready (rs := [8]) (by kernel_rfl) (by simp) ?_
                refine AllReadyH.cons (o := { dst := none, op := Op.store 25 (Operand.tmp 37) (Operand.tmp 36), type := 0, pos := _, after := #[{ on := 7, ground := Ground.data }, { on := 6, ground := Ground.data }, { on := 6, ground := Ground.chain }, { on := 0, ground := Ground.phase }, { on := 1, ground := Ground.phase }, { on := 2, ground := Ground.phase }, { on := 3, ground := Ground.phase }, { on := 4, ground := Ground.phase }, { on := 5, ground := Ground.phase }, { on := 6, ground := Ground.phase }], guard := none }) rfl (fun K hK => ?_) ?_
                · rw [if_pos (by rfl)]
                  obtain ⟨a9, c9, rfl⟩ := hO6.shape
                  have hOm := hOd.out.below hb6 hOd.out.lt
                  refine store_one_op 25 (.tmp 37) (.tmp 36) rfl rfl rfl hOm (by exact (by decide : 10 < 14)) (by kernel_rfl) rfl ?_
                  intro X7 hB7 hg7 hz7
                  refine hK.out _ _ (hSB7 hg7 hb6) (fun hHeld => ?_)
                  clear hK K
                  try simp only [Act.put, List.setIfInBounds_toArray, List.set_cons_zero, List.set_cons_succ]
                  refine wpAnyH_done (by kernel_rfl) ?_ _
                  refine NoPanic.normal ?_
                  have hlen : ([] ++ R ++ [qd]).length = n + 1 := by simp [hRS'.out.len]
                  exact ⟨rfl, _, _, _, _, a9, c9, rfl, by rw [← hlen]; exact hB7, grown_below_set hb6 hg7⟩
                exact AllReadyH.nil
              exact AllReadyH.nil
            exact AllReadyH.nil
          exact AllReadyH.nil
        refine AllReadyH.cons (o := { dst := some 35, op := Op.buildSlice 25 1 #[(0, Operand.tmp 34)], type := 25, pos := _, after := #[{ on := 4, ground := Ground.data }], guard := none }) rfl (fun K hK => ?_) ?_
        · go_simp
          obtain ⟨X0, hX0⟩ : ∃ u, w4.alloc (.cells #[.slice qd.na qd.nn qd.nc, .int .u16 qd.t, .int .u16 qd.k] 50) = u := ⟨_, rfl⟩
          have hbX0 : Hid (Below w4.heap.size w4 X0) := by rw [← hX0]; exact Lib.hid (hB4.out.alloc hB4.out.size _)
          have hLX0 : Hid (Blk X0 w4.heap.size 50 (0, 0) [.slice qd.na qd.nn qd.nc, .int .u16 qd.t, .int .u16 qd.k]) := by rw [← hX0]; exact Lib.hid (Blk.new w4 50 (0, 0) #[.slice qd.na qd.nn qd.nc, .int .u16 qd.t, .int .u16 qd.k])
          have hzX0 : Hid (X0.heap.size = w4.heap.size + 1) := by rw [← hX0]; exact Lib.hid (by simp)
          go_wp2_with fail
          try rw [hX0]
          refine hK.out _ _ (hSB.out _ hbX0.out) (fun hHeld => ?_)
          clear hK K
          try simp only [Act.put, List.setIfInBounds_toArray, List.set_cons_zero, List.set_cons_succ]
          refine wpAnyH_ready (rs := [0]) (by kernel_rfl) (by simp) ?_
          refine AllReadyH.cons (o := { dst := some 30, op := Op.buildSlice 25 0 #[], type := 25, pos := _, after := #[], guard := none }) rfl (fun K hK => ?_) ?_
          · go_simp
            obtain ⟨X1, hX1⟩ : ∃ u, X0.alloc (.cells #[] 50) = u := ⟨_, rfl⟩
            have hbX1 : Hid (Below w4.heap.size w4 X1) := by rw [← hX1]; exact Lib.hid (hbX0.out.alloc hbX0.out.size _)
            have hOX1 : Hid (Own qE X1 w4.heap.size (.slice (some ⟨X0.heap.size, 0, none⟩) 0 0) []) := by rw [← hX1]; exact Lib.hid ((Own.made qE X0 #[] [] 0 rfl rfl (Nat.zero_le _)).mono hbX0.out.size)
            have hLX1 : Hid (Blk X1 w4.heap.size 50 (0, 0) [.slice qd.na qd.nn qd.nc, .int .u16 qd.t, .int .u16 qd.k]) := by rw [← hX1]; exact Lib.hid (hLX0.out.alloc _)
            have hzX1 : Hid (X1.heap.size = X0.heap.size + 1) := by rw [← hX1]; exact Lib.hid (by simp)
            go_wp2_with fail
            try rw [hX1]
            refine hK.out _ _ (hSB.out _ hbX1.out) (fun hHeld => ?_)
            clear hK K
            try simp only [Act.put, List.setIfInBounds_toArray, List.set_cons_zero, List.set_cons_succ]
            refine wpAnyH_ready (rs := [3]) (by kernel_rfl) (by simp) ?_
            refine AllReadyH.cons (o := { dst := some 33, op := Op.call { callee := Callee.builtin Builtin.append, args := #[Operand.tmp 30, Operand.tmp 32], argTypes := #[25, 25] }, type := 25, pos := _, after := #[{ on := 0, ground := Ground.data }, { on := 2, ground := Ground.data }], guard := none }) rfl (fun K hK => ?_) ?_
            · refine step_q (v := .slice (some ⟨X0.heap.size, 0, none⟩) 0 0) (B := w4.heap.size) rfl (.tmp 30) (.tmp 32) rfl rfl rfl hOX1.out (hRS'.out.ext hbX1.out) (by simp; omega) hbX1.out.size ?_
              intro v33 X2 hOx hgx
              have hOX2 := Lib.hid hOx
              have hbX2 := Lib.hid (own_below hbX1.out hgx hOX1.out hbX1.out.size (Nat.le_refl _))
              have hLX2 : Hid (Blk X2 w4.heap.size 50 (0, 0) [.slice qd.na qd.nn qd.nc, .int .u16 qd.t, .int .u16 qd.k]) := Lib.hid ((hgx.block _ hLX1.out.lt (fun e => by have := hzX0.out; simp [Value.ownBlock] at e; omega)).trans hLX1.out)
              refine hK.out _ _ (hSB.out _ hbX2.out) (fun hHeld => ?_)
              clear hK K
              try simp only [Act.put, List.setIfInBounds_toArray, List.set_cons_zero, List.set_cons_succ]
              refine wpAnyH_ready (rs := [6]) (by kernel_rfl) (by simp) ?_
              refine AllReadyH.cons (o := { dst := some 36, op := Op.call { callee := Callee.builtin Builtin.append, args := #[Operand.tmp 33, Operand.tmp 35], argTypes := #[25, 25] }, type := 25, pos := _, after := #[{ on := 3, ground := Ground.data }, { on := 5, ground := Ground.data }, { on := 3, ground := Ground.chain }], guard := none }) rfl (fun K hK => ?_) ?_
              · refine step_q (v := v33) (B := w4.heap.size) rfl (.tmp 33) (.tmp 35) rfl rfl rfl hOX2.out (rd_blk (E := qE) (X := [qd]) hLX2.out 1 rfl (by decide)) (by have := hRS'.out.len; simp; omega) hbX2.out.size ?_
                intro v36 X6 hO6 hg6
                have hb6 := own_below hbX2.out hg6 hOX2.out hbX2.out.size (Nat.le_refl _)
                refine hK.out _ _ (hSB.out _ hb6) (fun hHeld => ?_)
                clear hK K
                try simp only [Act.put, List.setIfInBounds_toArray, List.set_cons_zero, List.set_cons_succ]
                refine wpAnyH_take (i := 7) (oi := { dst := some 37, op := Op.fieldAddr 28 (Operand.tmp 9) 10, type := 0, pos := _, after := #[{ on := 0, ground := Ground.phase }, { on := 1, ground := Ground.phase }, { on := 2, ground := Ground.phase }, { on := 3, ground := Ground.phase }, { on := 4, ground := Ground.phase }, { on := 5, ground := Ground.phase }, { on := 6, ground := Ground.phase }], guard := none }) (v := ?_) rfl (by kernel_rfl) (by kernel_rfl) (by kernel_rfl) (fun _ _ _ h => h) (Or.inl ⟨by rfl, ?_⟩) (by assumption) ?_
                rotate_left
                · intro w hSw
                  go_simp
                  first | done | with_reducible rfl
                try simp only [Act.put, List.setIfInBounds_toArray, List.set_cons_zero, List.set_cons_succ]
                refine wpAnyH_ready (rs := [8]) (by kernel_rfl) (by simp) ?_
                refine AllReadyH.cons (o := { dst := none, op := Op.store 25 (Operand.tmp 37) (Operand.tmp 36), type := 0, pos := _, after := #[{ on := 7, ground := Ground.data }, { on := 6, ground := Ground.data }, { on := 6, ground := Ground.chain }, { on := 0, ground := Ground.phase }, { on := 1, ground := Ground.phase }, { on := 2, ground := Ground.phase }, { on := 3, ground := Ground.phase }, { on := 4, ground := Ground.phase }, { on := 5, ground := Ground.phase }, { on := 6, ground := Ground.phase }], guard := none }) rfl (fun K hK => ?_) ?_
                · rw [if_pos (by rfl)]
                  obtain ⟨a9, c9, rfl⟩ := hO6.shape
                  have hOm := hOd.out.below hb6 hOd.out.lt
                  refine store_one_op 25 (.tmp 37) (.tmp 36) rfl rfl rfl hOm (by exact (by decide : 10 < 14)) (by kernel_rfl) rfl ?_
                  intro X7 hB7 hg7 hz7
                  refine hK.out _ _ (hSB7 hg7 hb6) (fun hHeld => ?_)
                  clear hK K
                  try simp only [Act.put, List.setIfInBounds_toArray, List.set_cons_zero, List.set_cons_succ]
                  refine wpAnyH_done (by kernel_rfl) ?_ _
                  refine NoPanic.normal ?_
                  have hlen : ([] ++ R ++ [qd]).length = n + 1 := by simp [hRS'.out.len]
                  exact ⟨rfl, _, _, _, _, a9, c9, rfl, by rw [← hlen]; exact hB7, grown_below_set hb6 hg7⟩
                exact AllReadyH.nil
              exact AllReadyH.nil
            exact AllReadyH.nil
          exact AllReadyH.nil
        exact AllReadyH.nil
      case imp =>
        rintro e a' w5 ⟨rfl, x30, x33, x35, x36, a9, c9, rfl, hO5, hk5⟩
        dsimp only
        have hO5' : Hid (Blk w5 wa.heap.size 28 (0, 0) [.int .u16 (id : Int), .bool true, .int .i64 op, .bool (F 5), .bool (F 4), .bool (F 3), .bool (F 2), .bool (F 1), .bool (F 0), .int .i64 rc, .slice a9 (n + 1) c9, .slice a1 n1 c1, .slice a2 n2 c2, .slice a3 n3 c3]) := Lib.hid hO5
        have hM5 : Hid (Blk w5 W.heap.size 28 (0, 0) [.int .u16 (id : Int), .bool true, .int .i64 op, .bool (F 5), .bool (F 4), .bool (F 3), .bool (F 2), .bool (F 1), .bool (F 0), .int .i64 rc, .slice a n c, .slice a1 n1 c1, .slice a2 n2 c2, .slice a3 n3 c3]) := Lib.hid ((hk5.2.2.2.2 _ hMS'.out.drew.lt (by have := hza.out; omega)).trans hMS'.out.drew)
        have hT5 : Hid (Blk w5 w2.heap.size 28 (0, 0) [.int .u16 (id : Int), .bool false, .int .i64 op, .bool false, .bool false, .bool false, .bool false, .bool false, .bool false, .int .i64 0, .slice a n c, .slice none 0 0, .slice none 0 0, .slice none 0 0]) := Lib.hid ((hk5.2.2.2.2 _ hTS'.out.drew.lt (by have := hza.out; omega)).trans hTS'.out.drew)
        have hb5 : Hid (Below W.heap.size W w5) := Lib.hid (hbS'.out.drew.trans ⟨hk5.1.symm, hk5.2.1.symm, hk5.2.2.1.symm, hk5.2.2.2.1, fun k hk => hk5.2.2.2.2 k (by have := hbS'.out.size; have e : wS.drew.heap.size = wS.heap.size := rfl; omega) (by have := hza.out; omega)⟩)
        clear hO5 hk5 hMS' hTS' hbS' hQS' hOS' hzS'
        have hb6 : Below W.heap.size W (w5.alloc (.cells #[.int .u16 (i2 : Int), .bool true, .int .i64 op, .bool (F 5), .bool (F 4), .bool (F 3), .bool (F 2), .bool (F 1), .bool (F 0), .int .i64 rc, .slice a n c, .slice a1 n1 c1, .slice a2 n2 c2, .slice a3 n3 c3] 28)) := hb5.out.alloc hb5.out.size _
        have hS6 : (fun u : World => Blk u W.heap.size 28 (0, 0) [.int .u16 (id : Int), .bool true, .int .i64 op, .bool (F 5), .bool (F 4), .bool (F 3), .bool (F 2), .bool (F 1), .bool (F 0), .int .i64 rc, .slice a n c, .slice a1 n1 c1, .slice a2 n2 c2, .slice a3 n3 c3] ∧ Blk u w2.heap.size 28 (0, 0) [.int .u16 (id : Int), .bool false, .int .i64 op, .bool false, .bool false, .bool false, .bool false, .bool false, .bool false, .int .i64 0, .slice a n c, .slice none 0 0, .slice none 0 0, .slice none 0 0] ∧ Blk u wa.heap.size 28 (0, 0) [.int .u16 (id : Int), .bool true, .int .i64 op, .bool (F 5), .bool (F 4), .bool (F 3), .bool (F 2), .bool (F 1), .bool (F 0), .int .i64 rc, .slice a9 (n + 1) c9, .slice a1 n1 c1, .slice a2 n2 c2, .slice a3 n3 c3] ∧ Blk u w5.heap.size 28 (0, 0) [.int .u16 (i2 : Int), .bool true, .int .i64 op, .bool (F 5), .bool (F 4), .bool (F 3), .bool (F 2), .bool (F 1), .bool (F 0), .int .i64 rc, .slice a n c, .slice a1 n1 c1, .slice a2 n2 c2, .slice a3 n3 c3]) (w5.alloc (.cells #[.int .u16 (i2 : Int), .bool true, .int .i64 op, .bool (F 5), .bool (F 4), .bool (F 3), .bool (F 2), .bool (F 1), .bool (F 0), .int .i64 rc, .slice a n c, .slice a1 n1 c1, .slice a2 n2 c2, .slice a3 n3 c3] 28)) := ⟨hM5.out.alloc _, hT5.out.alloc _, hO5'.out.alloc _, Blk.new w5 28 (0, 0) #[.int .u16 (i2 : Int), .bool true, .int .i64 op, .bool (F 5), .bool (F 4), .bool (F 3), .bool (F 2), .bool (F 1), .bool (F 0), .int .i64 rc, .slice a n c, .slice a1 n1 c1, .slice a2 n2 c2, .slice a3 n3 c3]⟩
        have h66 := Lib.hid (And.intro hb6 hS6)
        have hNN : ∀ q ∈ R, ∃ l, Nmd W q.na q.nn q.nc l := fun q hq => by
          obtain ⟨l, hl⟩ := hRR.out.2 q hq
          exact ⟨l, hl.nmd (hq130 q hq)⟩
        have hQL : ∀ u, Below W.heap.size W u → QsL u a n c (R.map (qv W)) := fun u hb => qsl_of hb (hRR.out.1.ext hb) hNN (by omega)
        have hQL := Lib.hid hQL
        clear hb6 hS6 hNN
        go_wp2_with (refine load_whole rfl 28 (.tmp 3) rfl rfl hM5.out Try.underlying28 rfl (by kernel_rfl) ?_)
        clear hM5 hT5 hO5' hb5
        generalize (w5.alloc (.cells #[.int .u16 (i2 : Int), .bool true, .int .i64 op, .bool (F 5), .bool (F 4), .bool (F 3), .bool (F 2), .bool (F 1), .bool (F 0), .int .i64 rc, .slice a n c, .slice a1 n1 c1, .slice a2 n2 c2, .slice a3 n3 c3] 28)) = w6 at *
        obtain ⟨hb6, hS6⟩ := h66.out
        have hb6' := Lib.hid hb6.drew
        have hSB : ∀ u, Below w6.drew.heap.size w6.drew u → Blk u W.heap.size 28 (0, 0) [.int .u16 (id : Int), .bool true, .int .i64 op, .bool (F 5), .bool (F 4), .bool (F 3), .bool (F 2), .bool (F 1), .bool (F 0), .int .i64 rc, .slice a n c, .slice a1 n1 c1, .slice a2 n2 c2, .slice a3 n3 c3] ∧ Blk u w2.heap.size 28 (0, 0) [.int .u16 (id : Int), .bool false, .int .i64 op, .bool false, .bool false, .bool false, .bool false, .bool false, .bool false, .int .i64 0, .slice a n c, .slice none 0 0, .slice none 0 0, .slice none 0 0] ∧ Blk u wa.heap.size 28 (0, 0) [.int .u16 (id : Int), .bool true, .int .i64 op, .bool (F 5), .bool (F 4), .bool (F 3), .bool (F 2), .bool (F 1), .bool (F 0), .int .i64 rc, .slice a9 (n + 1) c9, .slice a1 n1 c1, .slice a2 n2 c2, .slice a3 n3 c3] ∧ Blk u w5.heap.size 28 (0, 0) [.int .u16 (i2 : Int), .bool true, .int .i64 op, .bool (F 5), .bool (F 4), .bool (F 3), .bool (F 2), .bool (F 1), .bool (F 0), .int .i64 rc, .slice a n c, .slice a1 n1 c1, .slice a2 n2 c2, .slice a3 n3 c3] := fun u h => ⟨hS6.1.drew.below h hS6.1.drew.lt, hS6.2.1.drew.below h hS6.2.1.drew.lt, hS6.2.2.1.drew.below h hS6.2.2.1.drew.lt, hS6.2.2.2.drew.below h hS6.2.2.2.drew.lt⟩
        have hSB := Lib.hid hSB
        clear hb6 hS6 h66
        have hR1 : ∀ u : World, (Blk u W.heap.size 28 (0, 0) [.int .u16 (id : Int), .bool true, .int .i64 op, .bool (F 5), .bool (F 4), .bool (F 3), .bool (F 2), .bool (F 1), .bool (F 0), .int .i64 rc, .slice a n c, .slice a1 n1 c1, .slice a2 n2 c2, .slice a3 n3 c3] ∧ Blk u w2.heap.size 28 (0, 0) [.int .u16 (id : Int), .bool false, .int .i64 op, .bool false, .bool false, .bool false, .bool false, .bool false, .bool false, .int .i64 0, .slice a n c, .slice none 0 0, .slice none 0 0, .slice none 0 0] ∧ Blk u wa.heap.size 28 (0, 0) [.int .u16 (id : Int), .bool true, .int .i64 op, .bool (F 5), .bool (F 4), .bool (F 3), .bool (F 2), .bool (F 1), .bool (F 0), .int .i64 rc, .slice a9 (n + 1) c9, .slice a1 n1 c1, .slice a2 n2 c2, .slice a3 n3 c3] ∧ Blk u w5.heap.size 28 (0, 0) [.int .u16 (i2 : Int), .bool true, .int .i64 op, .bool (F 5), .bool (F 4), .bool (F 3), .bool (F 2), .bool (F 1), .bool (F 0), .int .i64 rc, .slice a n c, .slice a1 n1 c1, .slice a2 n2 c2, .slice a3 n3 c3]) → u.rangeAt W.heap.size 0 [.int .u16 (id : Int), .bool true, .int .i64 op, .bool (F 5), .bool (F 4), .bool (F 3), .bool (F 2), .bool (F 1), .bool (F 0), .int .i64 rc, .slice a n c, .slice a1 n1 c1, .slice a2 n2 c2, .slice a3 n3 c3] := fun u h => range_of h.1
        have hR2 : ∀ u : World, (Blk u W.heap.size 28 (0, 0) [.int .u16 (id : Int), .bool true, .int .i64 op, .bool (F 5), .bool (F 4), .bool (F 3), .bool (F 2), .bool (F 1), .bool (F 0), .int .i64 rc, .slice a n c, .slice a1 n1 c1, .slice a2 n2 c2, .slice a3 n3 c3] ∧ Blk u w2.heap.size 28 (0, 0) [.int .u16 (id : Int), .bool false, .int .i64 op, .bool false, .bool false, .bool false, .bool false, .bool false, .bool false, .int .i64 0, .slice a n c, .slice none 0 0, .slice none 0 0, .slice none 0 0] ∧ Blk u wa.heap.size 28 (0, 0) [.int .u16 (id : Int), .bool true, .int .i64 op, .bool (F 5), .bool (F 4), .bool (F 3), .bool (F 2), .bool (F 1), .bool (F 0), .int .i64 rc, .slice a9 (n + 1) c9, .slice a1 n1 c1, .slice a2 n2 c2, .slice a3 n3 c3] ∧ Blk u w5.heap.size 28 (0, 0) [.int .u16 (i2 : Int), .bool true, .int .i64 op, .bool (F 5), .bool (F 4), .bool (F 3), .bool (F 2), .bool (F 1), .bool (F 0), .int .i64 rc, .slice a n c, .slice a1 n1 c1, .slice a2 n2 c2, .slice a3 n3 c3]) → u.rangeAt w2.heap.size 0 [.int .u16 (id : Int), .bool false, .int .i64 op, .bool false, .bool false, .bool false, .bool false, .bool false, .bool false, .int .i64 0, .slice a n c, .slice none 0 0, .slice none 0 0, .slice none 0 0] := fun u h => range_of h.2.1
        have hR3 : ∀ u : World, (Blk u W.heap.size 28 (0, 0) [.int .u16 (id : Int), .bool true, .int .i64 op, .bool (F 5), .bool (F 4), .bool (F 3), .bool (F 2), .bool (F 1), .bool (F 0), .int .i64 rc, .slice a n c, .slice a1 n1 c1, .slice a2 n2 c2, .slice a3 n3 c3] ∧ Blk u w2.heap.size 28 (0, 0) [.int .u16 (id : Int), .bool false, .int .i64 op, .bool false, .bool false, .bool false, .bool false, .bool false, .bool false, .int .i64 0, .slice a n c, .slice none 0 0, .slice none 0 0, .slice none 0 0] ∧ Blk u wa.heap.size 28 (0, 0) [.int .u16 (id : Int), .bool true, .int .i64 op, .bool (F 5), .bool (F 4), .bool (F 3), .bool (F 2), .bool (F 1), .bool (F 0), .int .i64 rc, .slice a9 (n + 1) c9, .slice a1 n1 c1, .slice a2 n2 c2, .slice a3 n3 c3] ∧ Blk u w5.heap.size 28 (0, 0) [.int .u16 (i2 : Int), .bool true, .int .i64 op, .bool (F 5), .bool (F 4), .bool (F 3), .bool (F 2), .bool (F 1), .bool (F 0), .int .i64 rc, .slice a n c, .slice a1 n1 c1, .slice a2 n2 c2, .slice a3 n3 c3]) → u.rangeAt wa.heap.size 0 [.int .u16 (id : Int), .bool true, .int .i64 op, .bool (F 5), .bool (F 4), .bool (F 3), .bool (F 2), .bool (F 1), .bool (F 0), .int .i64 rc, .slice a9 (n + 1) c9, .slice a1 n1 c1, .slice a2 n2 c2, .slice a3 n3 c3] := fun u h => range_of h.2.2.1
        have hR4 : ∀ u : World, (Blk u W.heap.size 28 (0, 0) [.int .u16 (id : Int), .bool true, .int .i64 op, .bool (F 5), .bool (F 4), .bool (F 3), .bool (F 2), .bool (F 1), .bool (F 0), .int .i64 rc, .slice a n c, .slice a1 n1 c1, .slice a2 n2 c2, .slice a3 n3 c3] ∧ Blk u w2.heap.size 28 (0, 0) [.int .u16 (id : Int), .bool false, .int .i64 op, .bool false, .bool false, .bool false, .bool false, .bool false, .bool false, .int .i64 0, .slice a n c, .slice none 0 0, .slice none 0 0, .slice none 0 0] ∧ Blk u wa.heap.size 28 (0, 0) [.int .u16 (id : Int), .bool true, .int .i64 op, .bool (F 5), .bool (F 4), .bool (F 3), .bool (F 2), .bool (F 1), .bool (F 0), .int .i64 rc, .slice a9 (n + 1) c9, .slice a1 n1 c1, .slice a2 n2 c2, .slice a3 n3 c3] ∧ Blk u w5.heap.size 28 (0, 0) [.int .u16 (i2 : Int), .bool true, .int .i64 op, .bool (F 5), .bool (F 4), .bool (F 3), .bool (F 2), .bool (F 1), .bool (F 0), .int .i64 rc, .slice a n c, .slice a1 n1 c1, .slice a2 n2 c2, .slice a3 n3 c3]) → u.rangeAt w5.heap.size 0 [.int .u16 (i2 : Int), .bool true, .int .i64 op, .bool (F 5), .bool (F 4), .bool (F 3), .bool (F 2), .bool (F 1), .bool (F 0), .int .i64 rc, .slice a n c, .slice a1 n1 c1, .slice a2 n2 c2, .slice a3 n3 c3] := fun u h => range_of h.2.2.2
        have r1 : ansB (id : Int) (id : Int) op op (fun j => j == 6 || F j) (fun _ => false) (R.map (qv W)) (R.map (qv W)) = true := by simp [ansB, qsSame_refl]
        have r4 : ansB (id : Int) (id : Int) op op (fun _ => false) (fun j => j == 6 || F j) (R.map (qv W)) (R.map (qv W)) = false := by simp [ansB]
        have r1 := Lib.hid r1
        have r4 := Lib.hid r4
        by_cases hid : id = i2
        · subst hid
          have e19 : ((id : Int) == (id : Int)) = true := by simp
          have r3 : ansB (id : Int) (id : Int) op op (fun j => j == 6 || F j) (fun _ => false) (R.map (qv W)) (R.map (qv W)) = true := by simp [ansB, qsSame_refl]
          have r3 := Lib.hid r3
          refine wp_region_noPanic ?_
          refine wp_region_held_drew (S := fun u => Blk u W.heap.size 28 (0, 0) [.int .u16 (id : Int), .bool true, .int .i64 op, .bool (F 5), .bool (F 4), .bool (F 3), .bool (F 2), .bool (F 1), .bool (F 0), .int .i64 rc, .slice a n c, .slice a1 n1 c1, .slice a2 n2 c2, .slice a3 n3 c3] ∧ Blk u w2.heap.size 28 (0, 0) [.int .u16 (id : Int), .bool false, .int .i64 op, .bool false, .bool false, .bool false, .bool false, .bool false, .bool false, .int .i64 0, .slice a n c, .slice none 0 0, .slice none 0 0, .slice none 0 0] ∧ Blk u wa.heap.size 28 (0, 0) [.int .u16 (id : Int), .bool true, .int .i64 op, .bool (F 5), .bool (F 4), .bool (F 3), .bool (F 2), .bool (F 1), .bool (F 0), .int .i64 rc, .slice a9 (n + 1) c9, .slice a1 n1 c1, .slice a2 n2 c2, .slice a3 n3 c3] ∧ Blk u w5.heap.size 28 (0, 0) [.int .u16 (id : Int), .bool true, .int .i64 op, .bool (F 5), .bool (F 4), .bool (F 3), .bool (F 2), .bool (F 1), .bool (F 0), .int .i64 rc, .slice a n c, .slice a1 n1 c1, .slice a2 n2 c2, .slice a3 n3 c3]) (by kernel_rfl) (hSB.out _ (Below.refl _ _)) (fun hHeld => ?_)
          have hbw7 := hb6'
          have hcw7 : Hid (Below w6.drew.heap.size w6.drew w6.drew) := Lib.hid (Below.refl _ _)
          generalize w6.drew = w7 at *
          refine wpAnyH_take (i := 0) (oi := { dst := some 41, op := Op.move (Operand.tmp 7), type := 4, pos := _, after := #[], guard := none }) (v := ?_) rfl (by kernel_rfl) (by kernel_rfl) (by kernel_rfl) (fun _ _ _ h => h) (Or.inl ⟨by rfl, ?_⟩) (by assumption) ?_
          rotate_left
          · intro w hSw
            go_simp
            first | done | with_reducible rfl
          try simp only [Act.put, List.setIfInBounds_toArray, List.set_cons_zero, List.set_cons_succ]
          refine wpAnyH_take (i := 1) (oi := { dst := some 42, op := Op.move (Operand.tmp 41), type := 4, pos := _, after := #[{ on := 0, ground := Ground.data }], guard := none }) (v := ?_) rfl (by kernel_rfl) (by kernel_rfl) (by kernel_rfl) (fun _ _ _ h => h) (Or.inl ⟨by rfl, ?_⟩) (by assumption) ?_
          rotate_left
          · intro w hSw
            go_simp
            first | done | with_reducible rfl
          try simp only [Act.put, List.setIfInBounds_toArray, List.set_cons_zero, List.set_cons_succ]
          refine wpAnyH_take (i := 2) (oi := { dst := some 43, op := Op.load 28 (Operand.tmp 3), type := 28, pos := _, after := #[{ on := 1, ground := Ground.guard }], guard := some (1, true) }) (v := _) rfl (by kernel_rfl) (by kernel_rfl) (by kernel_rfl) (fun _ _ _ h => h) (yieldsIf_load_mid (by rfl) 28 (.tmp 3) rfl W.heap.size 0 rfl _ _ hR1 Try.underlying28 rfl (by kernel_rfl)) (by assumption) ?_
          try simp only [Act.put, List.setIfInBounds_toArray, List.set_cons_zero, List.set_cons_succ]
          refine wpAnyH_take (i := 3) (oi := { dst := some 44, op := Op.load 28 (Operand.tmp 8), type := 28, pos := _, after := #[{ on := 1, ground := Ground.guard }], guard := some (1, true) }) (v := _) rfl (by kernel_rfl) (by kernel_rfl) (by kernel_rfl) (fun _ _ _ h => h) (yieldsIf_load_mid (by rfl) 28 (.tmp 8) rfl w2.heap.size 0 rfl _ _ hR2 Try.underlying28 rfl (by kernel_rfl)) (by assumption) ?_
          try simp only [Act.put, List.setIfInBounds_toArray, List.set_cons_zero, List.set_cons_succ]
          refine wpAnyH_ready (rs := [4]) (by kernel_rfl) (by simp) ?_
          refine AllReadyH.cons (o := { dst := some 45, op := Op.call { callee := Callee.value (Operand.func 20), args := #[Operand.tmp 43, Operand.tmp 44], argTypes := #[28, 28] }, type := 4, pos := _, after := #[{ on := 2, ground := Ground.data }, { on := 3, ground := Ground.data }, { on := 1, ground := Ground.chain }, { on := 1, ground := Ground.guard }], guard := some (1, true) }) rfl (fun K hK => ?_) AllReadyH.nil
          go_simp
          go_at_call 20
          refine (answers_any id id op rc op 0 (fun j => j == 6 || F j) (fun _ => false) (hQL.out _ hbw7.out) (hQL.out _ hbw7.out) (.slice a1 n1 c1) (.slice a2 n2 c2) (.slice a3 n3 c3) (.slice none 0 0) (.slice none 0 0) (.slice none 0 0)).mono ?_
          rintro e w8 ⟨rfl, hbn⟩
          rw [r1.out]
          have hbw8 := Lib.hid (hbw7.out.trans (hbn.mono hbw7.out.size))
          have hcw8 := Lib.hid (hcw7.out.trans (hbn.mono hcw7.out.size))
          clear hbn
          go_wp2_with fail
          refine hK.out _ _ (hSB.out _ hcw8.out) (fun hHeld => ?_)
          clear hK K
          try simp only [Act.put, List.setIfInBounds_toArray, List.set_cons_zero, List.set_cons_succ]
          refine wpAnyH_take (i := 5) (oi := { dst := some 46, op := Op.pick (Operand.tmp 42) (Operand.tmp 45) (Operand.const (Value.bool false)), type := 4, pos := _, after := #[{ on := 1, ground := Ground.data }, { on := 4, ground := Ground.data }], guard := none }) (v := ?_) rfl (by kernel_rfl) (by kernel_rfl) (by kernel_rfl) (fun _ _ _ h => h) (Or.inl ⟨by rfl, ?_⟩) (by assumption) ?_
          rotate_left
          · intro w hSw
            go_simp
            first | done | with_reducible rfl
          try simp only [Act.put, List.setIfInBounds_toArray, List.set_cons_zero, List.set_cons_succ]
          refine wpAnyH_take (i := 6) (oi := { dst := some 47, op := Op.move (Operand.tmp 46), type := 4, pos := _, after := #[{ on := 5, ground := Ground.data }, { on := 4, ground := Ground.chain }], guard := none }) (v := ?_) rfl (by kernel_rfl) (by kernel_rfl) (by kernel_rfl) (fun _ _ _ h => h) (Or.inl ⟨by rfl, ?_⟩) (by assumption) ?_
          rotate_left
          · intro w hSw
            go_simp
            first | done | with_reducible rfl
          try simp only [Act.put, List.setIfInBounds_toArray, List.set_cons_zero, List.set_cons_succ]
          refine wpAnyH_take (i := 7) (oi := { dst := some 48, op := Op.load 28 (Operand.tmp 9), type := 28, pos := _, after := #[{ on := 6, ground := Ground.guard }], guard := some (6, true) }) (v := _) rfl (by kernel_rfl) (by kernel_rfl) (by kernel_rfl) (fun _ _ _ h => h) (yieldsIf_load_mid (by rfl) 28 (.tmp 9) rfl wa.heap.size 0 rfl _ _ hR3 Try.underlying28 rfl (by kernel_rfl)) (by assumption) ?_
          try simp only [Act.put, List.setIfInBounds_toArray, List.set_cons_zero, List.set_cons_succ]
          refine wpAnyH_take (i := 8) (oi := { dst := some 49, op := Op.load 28 (Operand.tmp 8), type := 28, pos := _, after := #[{ on := 6, ground := Ground.guard }], guard := some (6, true) }) (v := _) rfl (by kernel_rfl) (by kernel_rfl) (by kernel_rfl) (fun _ _ _ h => h) (yieldsIf_load_mid (by rfl) 28 (.tmp 8) rfl w2.heap.size 0 rfl _ _ hR2 Try.underlying28 rfl (by kernel_rfl)) (by assumption) ?_
          try simp only [Act.put, List.setIfInBounds_toArray, List.set_cons_zero, List.set_cons_succ]
          refine wpAnyH_ready (rs := [9]) (by kernel_rfl) (by simp) ?_
          refine AllReadyH.cons (o := { dst := some 50, op := Op.call { callee := Callee.value (Operand.func 20), args := #[Operand.tmp 48, Operand.tmp 49], argTypes := #[28, 28] }, type := 4, pos := _, after := #[{ on := 7, ground := Ground.data }, { on := 8, ground := Ground.data }, { on := 6, ground := Ground.chain }, { on := 6, ground := Ground.guard }], guard := some (6, true) }) rfl (fun K hK => ?_) AllReadyH.nil
          go_simp
          go_at_call 20
          refine (answers_len id op rc 0 (fun j => j == 6 || F j) rfl (Nat.succ_ne_self n) (.slice a1 n1 c1) (.slice a2 n2 c2) (.slice a3 n3 c3) (.slice none 0 0) (.slice none 0 0) (.slice none 0 0)).mono ?_
          rintro e w9 ⟨rfl, hbn⟩
          have hbw9 := Lib.hid (hbw8.out.trans (hbn.mono hbw8.out.size))
          have hcw9 := Lib.hid (hcw8.out.trans (hbn.mono hcw8.out.size))
          clear hbn
          go_wp2_with fail
          refine hK.out _ _ (hSB.out _ hcw9.out) (fun hHeld => ?_)
          clear hK K
          try simp only [Act.put, List.setIfInBounds_toArray, List.set_cons_zero, List.set_cons_succ]
          refine wpAnyH_take (i := 10) (oi := { dst := some 51, op := Op.unOp UnOp.not 4 (Operand.tmp 50), type := 4, pos := _, after := #[{ on := 9, ground := Ground.data }, { on := 6, ground := Ground.guard }], guard := some (6, true) }) (v := ?_) rfl (by kernel_rfl) (by kernel_rfl) (by kernel_rfl) (fun _ _ _ h => h) (Or.inl ⟨by rfl, ?_⟩) (by assumption) ?_
          rotate_left
          · intro w hSw
            go_simp
            first | done | with_reducible rfl
          try simp only [Act.put, List.setIfInBounds_toArray, List.set_cons_zero, List.set_cons_succ]
          refine wpAnyH_take (i := 11) (oi := { dst := some 52, op := Op.pick (Operand.tmp 47) (Operand.tmp 51) (Operand.const (Value.bool false)), type := 4, pos := _, after := #[{ on := 6, ground := Ground.data }, { on := 10, ground := Ground.data }], guard := none }) (v := ?_) rfl (by kernel_rfl) (by kernel_rfl) (by kernel_rfl) (fun _ _ _ h => h) (Or.inl ⟨by rfl, ?_⟩) (by assumption) ?_
          rotate_left
          · intro w hSw
            go_simp
            first | done | with_reducible rfl
          try simp only [Act.put, List.setIfInBounds_toArray, List.set_cons_zero, List.set_cons_succ]
          refine wpAnyH_take (i := 12) (oi := { dst := some 53, op := Op.move (Operand.tmp 52), type := 4, pos := _, after := #[{ on := 11, ground := Ground.data }, { on := 9, ground := Ground.chain }], guard := none }) (v := ?_) rfl (by kernel_rfl) (by kernel_rfl) (by kernel_rfl) (fun _ _ _ h => h) (Or.inl ⟨by rfl, ?_⟩) (by assumption) ?_
          rotate_left
          · intro w hSw
            go_simp
            first | done | with_reducible rfl
          try simp only [Act.put, List.setIfInBounds_toArray, List.set_cons_zero, List.set_cons_succ]
          refine wpAnyH_take (i := 13) (oi := { dst := some 54, op := Op.load 28 (Operand.tmp 10), type := 28, pos := _, after := #[{ on := 12, ground := Ground.guard }], guard := some (12, true) }) (v := _) rfl (by kernel_rfl) (by kernel_rfl) (by kernel_rfl) (fun _ _ _ h => h) (yieldsIf_load_mid (by rfl) 28 (.tmp 10) rfl w5.heap.size 0 rfl _ _ hR4 Try.underlying28 rfl (by kernel_rfl)) (by assumption) ?_
          try simp only [Act.put, List.setIfInBounds_toArray, List.set_cons_zero, List.set_cons_succ]
          refine wpAnyH_take (i := 14) (oi := { dst := some 55, op := Op.load 28 (Operand.tmp 8), type := 28, pos := _, after := #[{ on := 12, ground := Ground.guard }], guard := some (12, true) }) (v := _) rfl (by kernel_rfl) (by kernel_rfl) (by kernel_rfl) (fun _ _ _ h => h) (yieldsIf_load_mid (by rfl) 28 (.tmp 8) rfl w2.heap.size 0 rfl _ _ hR2 Try.underlying28 rfl (by kernel_rfl)) (by assumption) ?_
          try simp only [Act.put, List.setIfInBounds_toArray, List.set_cons_zero, List.set_cons_succ]
          refine wpAnyH_take (i := 16) (oi := { dst := some 57, op := Op.move (Operand.tmp 1), type := 24, pos := _, after := #[{ on := 12, ground := Ground.guard }], guard := some (12, true) }) (v := ?_) rfl (by kernel_rfl) (by kernel_rfl) (by kernel_rfl) (fun _ _ _ h => h) (Or.inl ⟨by rfl, ?_⟩) (by assumption) ?_
          rotate_left
          · intro w hSw
            go_simp
            first | done | with_reducible rfl
          try simp only [Act.put, List.setIfInBounds_toArray, List.set_cons_zero, List.set_cons_succ]
          refine wpAnyH_take (i := 17) (oi := { dst := some 58, op := Op.fieldAddr 28 (Operand.tmp 3) 0, type := 0, pos := _, after := #[{ on := 12, ground := Ground.guard }], guard := some (12, true) }) (v := ?_) rfl (by kernel_rfl) (by kernel_rfl) (by kernel_rfl) (fun _ _ _ h => h) (Or.inl ⟨by rfl, ?_⟩) (by assumption) ?_
          rotate_left
          · intro w hSw
            go_simp
            first | done | with_reducible rfl
          try simp only [Act.put, List.setIfInBounds_toArray, List.set_cons_zero, List.set_cons_succ]
          refine wpAnyH_take (i := 18) (oi := { dst := some 59, op := Op.load 24 (Operand.tmp 58), type := 24, pos := _, after := #[{ on := 17, ground := Ground.data }, { on := 12, ground := Ground.guard }], guard := some (12, true) }) (v := .int .u16 (id : Int)) rfl (by kernel_rfl) (by kernel_rfl) (by kernel_rfl) (fun _ _ _ h => h) (Or.inl ⟨by rfl, ?_⟩) (by assumption) ?_
          · intro w hSw
            have hcc : w.cell? ⟨W.heap.size, 0, none⟩ = some (.int .u16 (id : Int)) := (hSw.1.cell 0).trans rfl
            go_simp
          try simp only [Act.put, List.setIfInBounds_toArray, List.set_cons_zero, List.set_cons_succ]
          refine wpAnyH_take (i := 19) (oi := { dst := some 60, op := Op.binOp BinOp.eql 24 (Operand.tmp 57) (Operand.tmp 59) 24, type := 4, pos := _, after := #[{ on := 16, ground := Ground.data }, { on := 18, ground := Ground.data }, { on := 12, ground := Ground.guard }], guard := some (12, true) }) (v := ?_) rfl (by kernel_rfl) (by kernel_rfl) (by kernel_rfl) (fun _ _ _ h => h) (Or.inl ⟨by rfl, ?_⟩) (by assumption) ?_
          rotate_left
          · intro w hSw
            go_simp
            first | done | with_reducible rfl
          try simp only [Act.put, List.setIfInBounds_toArray, List.set_cons_zero, List.set_cons_succ]
          refine wpAnyH_ready (rs := [15]) (by kernel_rfl) (by simp) ?_
          refine AllReadyH.cons (o := { dst := some 56, op := Op.call { callee := Callee.value (Operand.func 20), args := #[Operand.tmp 54, Operand.tmp 55], argTypes := #[28, 28] }, type := 4, pos := _, after := #[{ on := 13, ground := Ground.data }, { on := 14, ground := Ground.data }, { on := 12, ground := Ground.chain }, { on := 12, ground := Ground.guard }], guard := some (12, true) }) rfl (fun K hK => ?_) AllReadyH.nil
          go_simp
          go_at_call 20
          refine (answers_any id id op rc op 0 (fun j => j == 6 || F j) (fun _ => false) (hQL.out _ hbw9.out) (hQL.out _ hbw9.out) (.slice a1 n1 c1) (.slice a2 n2 c2) (.slice a3 n3 c3) (.slice none 0 0) (.slice none 0 0) (.slice none 0 0)).mono ?_
          rintro e w10 ⟨rfl, hbn⟩
          rw [r3.out]
          have hbw10 := Lib.hid (hbw9.out.trans (hbn.mono hbw9.out.size))
          have hcw10 := Lib.hid (hcw9.out.trans (hbn.mono hcw9.out.size))
          clear hbn
          go_wp2_with fail
          refine hK.out _ _ (hSB.out _ hcw10.out) (fun hHeld => ?_)
          clear hK K
          try simp only [Act.put, List.setIfInBounds_toArray, List.set_cons_zero, List.set_cons_succ]
          refine wpAnyH_take (i := 20) (oi := { dst := some 61, op := Op.binOp BinOp.eql 4 (Operand.tmp 56) (Operand.tmp 60) 4, type := 4, pos := _, after := #[{ on := 15, ground := Ground.data }, { on := 19, ground := Ground.data }, { on := 12, ground := Ground.guard }], guard := some (12, true) }) (v := ?_) rfl (by kernel_rfl) (by kernel_rfl) (by kernel_rfl) (fun _ _ _ h => h) (Or.inl ⟨by rfl, ?_⟩) (by assumption) ?_
          rotate_left
          · intro w hSw
            go_simp
            first | done | with_reducible rfl
          try simp only [Act.put, List.setIfInBounds_toArray, List.set_cons_zero, List.set_cons_succ]
          refine wpAnyH_take (i := 21) (oi := { dst := some 62, op := Op.pick (Operand.tmp 53) (Operand.tmp 61) (Operand.const (Value.bool false)), type := 4, pos := _, after := #[{ on := 12, ground := Ground.data }, { on := 20, ground := Ground.data }], guard := none }) (v := ?_) rfl (by kernel_rfl) (by kernel_rfl) (by kernel_rfl) (fun _ _ _ h => h) (Or.inl ⟨by rfl, ?_⟩) (by assumption) ?_
          rotate_left
          · intro w hSw
            go_simp
            first | done | with_reducible rfl
          try simp only [Act.put, List.setIfInBounds_toArray, List.set_cons_zero, List.set_cons_succ]
          refine wpAnyH_take (i := 22) (oi := { dst := some 63, op := Op.move (Operand.tmp 62), type := 4, pos := _, after := #[{ on := 21, ground := Ground.data }, { on := 15, ground := Ground.chain }], guard := none }) (v := ?_) rfl (by kernel_rfl) (by kernel_rfl) (by kernel_rfl) (fun _ _ _ h => h) (Or.inl ⟨by rfl, ?_⟩) (by assumption) ?_
          rotate_left
          · intro w hSw
            go_simp
            first | done | with_reducible rfl
          try simp only [Act.put, List.setIfInBounds_toArray, List.set_cons_zero, List.set_cons_succ]
          refine wpAnyH_take (i := 23) (oi := { dst := some 64, op := Op.load 28 (Operand.tmp 8), type := 28, pos := _, after := #[{ on := 22, ground := Ground.guard }], guard := some (22, true) }) (v := _) rfl (by kernel_rfl) (by kernel_rfl) (by kernel_rfl) (fun _ _ _ h => h) (yieldsIf_load_mid (by rfl) 28 (.tmp 8) rfl w2.heap.size 0 rfl _ _ hR2 Try.underlying28 rfl (by kernel_rfl)) (by assumption) ?_
          try simp only [Act.put, List.setIfInBounds_toArray, List.set_cons_zero, List.set_cons_succ]
          refine wpAnyH_take (i := 24) (oi := { dst := some 65, op := Op.load 28 (Operand.tmp 3), type := 28, pos := _, after := #[{ on := 22, ground := Ground.guard }], guard := some (22, true) }) (v := _) rfl (by kernel_rfl) (by kernel_rfl) (by kernel_rfl) (fun _ _ _ h => h) (yieldsIf_load_mid (by rfl) 28 (.tmp 3) rfl W.heap.size 0 rfl _ _ hR1 Try.underlying28 rfl (by kernel_rfl)) (by assumption) ?_
          try simp only [Act.put, List.setIfInBounds_toArray, List.set_cons_zero, List.set_cons_succ]
          refine wpAnyH_ready (rs := [25]) (by kernel_rfl) (by simp) ?_
          refine AllReadyH.cons (o := { dst := some 66, op := Op.call { callee := Callee.value (Operand.func 20), args := #[Operand.tmp 64, Operand.tmp 65], argTypes := #[28, 28] }, type := 4, pos := _, after := #[{ on := 23, ground := Ground.data }, { on := 24, ground := Ground.data }, { on := 22, ground := Ground.chain }, { on := 22, ground := Ground.guard }], guard := some (22, true) }) rfl (fun K hK => ?_) AllReadyH.nil
          go_simp
          go_at_call 20
          refine (answers_any id id op 0 op rc (fun _ => false) (fun j => j == 6 || F j) (hQL.out _ hbw10.out) (hQL.out _ hbw10.out) (.slice none 0 0) (.slice none 0 0) (.slice none 0 0) (.slice a1 n1 c1) (.slice a2 n2 c2) (.slice a3 n3 c3)).mono ?_
          rintro e w11 ⟨rfl, hbn⟩
          rw [r4.out]
          have hbw11 := Lib.hid (hbw10.out.trans (hbn.mono hbw10.out.size))
          have hcw11 := Lib.hid (hcw10.out.trans (hbn.mono hcw10.out.size))
          clear hbn
          go_wp2_with fail
          refine hK.out _ _ (hSB.out _ hcw11.out) (fun hHeld => ?_)
          clear hK K
          try simp only [Act.put, List.setIfInBounds_toArray, List.set_cons_zero, List.set_cons_succ]
          refine wpAnyH_take (i := 26) (oi := { dst := some 67, op := Op.unOp UnOp.not 4 (Operand.tmp 66), type := 4, pos := _, after := #[{ on := 25, ground := Ground.data }, { on := 22, ground := Ground.guard }], guard := some (22, true) }) (v := ?_) rfl (by kernel_rfl) (by kernel_rfl) (by kernel_rfl) (fun _ _ _ h => h) (Or.inl ⟨by rfl, ?_⟩) (by assumption) ?_
          rotate_left
          · intro w hSw
            go_simp
            first | done | with_reducible rfl
          try simp only [Act.put, List.setIfInBounds_toArray, List.set_cons_zero, List.set_cons_succ]
          refine wpAnyH_take (i := 27) (oi := { dst := some 68, op := Op.pick (Operand.tmp 63) (Operand.tmp 67) (Operand.const (Value.bool false)), type := 4, pos := _, after := #[{ on := 22, ground := Ground.data }, { on := 26, ground := Ground.data }], guard := none }) (v := ?_) rfl (by kernel_rfl) (by kernel_rfl) (by kernel_rfl) (fun _ _ _ h => h) (Or.inl ⟨by rfl, ?_⟩) (by assumption) ?_
          rotate_left
          · intro w hSw
            go_simp
            first | done | with_reducible rfl
          try simp only [Act.put, List.setIfInBounds_toArray, List.set_cons_zero, List.set_cons_succ]
          refine wpAnyH_take (i := 28) (oi := { dst := some 6, op := Op.assign (Operand.tmp 68), type := 4, pos := _, after := #[{ on := 27, ground := Ground.data }, { on := 25, ground := Ground.chain }, { on := 0, ground := Ground.phase }, { on := 1, ground := Ground.phase }, { on := 2, ground := Ground.phase }, { on := 3, ground := Ground.phase }, { on := 4, ground := Ground.phase }, { on := 5, ground := Ground.phase }, { on := 6, ground := Ground.phase }, { on := 7, ground := Ground.phase }, { on := 8, ground := Ground.phase }, { on := 9, ground := Ground.phase }, { on := 10, ground := Ground.phase }, { on := 11, ground := Ground.phase }, { on := 12, ground := Ground.phase }, { on := 13, ground := Ground.phase }, { on := 14, ground := Ground.phase }, { on := 15, ground := Ground.phase }, { on := 16, ground := Ground.phase }, { on := 17, ground := Ground.phase }, { on := 18, ground := Ground.phase }, { on := 19, ground := Ground.phase }, { on := 20, ground := Ground.phase }, { on := 21, ground := Ground.phase }, { on := 22, ground := Ground.phase }, { on := 23, ground := Ground.phase }, { on := 24, ground := Ground.phase }, { on := 25, ground := Ground.phase }, { on := 26, ground := Ground.phase }, { on := 27, ground := Ground.phase }], guard := none }) (v := ?_) rfl (by kernel_rfl) (by kernel_rfl) (by kernel_rfl) (fun _ _ _ h => h) (Or.inl ⟨by rfl, ?_⟩) (by assumption) ?_
          rotate_left
          · intro w hSw
            go_simp
            first | done | with_reducible rfl
          try simp only [Act.put, List.setIfInBounds_toArray, List.set_cons_zero, List.set_cons_succ]
          refine wpAnyH_done (by kernel_rfl) ?_ _
          refine NoPanic.normal ?_
          go_wp2_with fail
          go_ret
          exact ⟨rfl, hbw11.out⟩
        · have e19 : ((i2 : Int) == (id : Int)) = false := by simp; omega
          have e19b : ¬ (i2 : Int) = (id : Int) := by omega
          have r3 : ansB (i2 : Int) (id : Int) op op (fun j => j == 6 || F j) (fun _ => false) (R.map (qv W)) (R.map (qv W)) = false := by simp [ansB, qsSame_refl, e19b]
          have r3 := Lib.hid r3
          refine wp_region_noPanic ?_
          refine wp_region_held_drew (S := fun u => Blk u W.heap.size 28 (0, 0) [.int .u16 (id : Int), .bool true, .int .i64 op, .bool (F 5), .bool (F 4), .bool (F 3), .bool (F 2), .bool (F 1), .bool (F 0), .int .i64 rc, .slice a n c, .slice a1 n1 c1, .slice a2 n2 c2, .slice a3 n3 c3] ∧ Blk u w2.heap.size 28 (0, 0) [.int .u16 (id : Int), .bool false, .int .i64 op, .bool false, .bool false, .bool false, .bool false, .bool false, .bool false, .int .i64 0, .slice a n c, .slice none 0 0, .slice none 0 0, .slice none 0 0] ∧ Blk u wa.heap.size 28 (0, 0) [.int .u16 (id : Int), .bool true, .int .i64 op, .bool (F 5), .bool (F 4), .bool (F 3), .bool (F 2), .bool (F 1), .bool (F 0), .int .i64 rc, .slice a9 (n + 1) c9, .slice a1 n1 c1, .slice a2 n2 c2, .slice a3 n3 c3] ∧ Blk u w5.heap.size 28 (0, 0) [.int .u16 (i2 : Int), .bool true, .int .i64 op, .bool (F 5), .bool (F 4), .bool (F 3), .bool (F 2), .bool (F 1), .bool (F 0), .int .i64 rc, .slice a n c, .slice a1 n1 c1, .slice a2 n2 c2, .slice a3 n3 c3]) (by kernel_rfl) (hSB.out _ (Below.refl _ _)) (fun hHeld => ?_)
          have hbw7 := hb6'
          have hcw7 : Hid (Below w6.drew.heap.size w6.drew w6.drew) := Lib.hid (Below.refl _ _)
          generalize w6.drew = w7 at *
          refine wpAnyH_take (i := 0) (oi := { dst := some 41, op := Op.move (Operand.tmp 7), type := 4, pos := _, after := #[], guard := none }) (v := ?_) rfl (by kernel_rfl) (by kernel_rfl) (by kernel_rfl) (fun _ _ _ h => h) (Or.inl ⟨by rfl, ?_⟩) (by assumption) ?_
          rotate_left
          · intro w hSw
            go_simp
            first | done | with_reducible rfl
          try simp only [Act.put, List.setIfInBounds_toArray, List.set_cons_zero, List.set_cons_succ]
          refine wpAnyH_take (i := 1) (oi := { dst := some 42, op := Op.move (Operand.tmp 41), type := 4, pos := _, after := #[{ on := 0, ground := Ground.data }], guard := none }) (v := ?_) rfl (by kernel_rfl) (by kernel_rfl) (by kernel_rfl) (fun _ _ _ h => h) (Or.inl ⟨by rfl, ?_⟩) (by assumption) ?_
          rotate_left
          · intro w hSw
            go_simp
            first | done | with_reducible rfl
          try simp only [Act.put, List.setIfInBounds_toArray, List.set_cons_zero, List.set_cons_succ]
          refine wpAnyH_take (i := 2) (oi := { dst := some 43, op := Op.load 28 (Operand.tmp 3), type := 28, pos := _, after := #[{ on := 1, ground := Ground.guard }], guard := some (1, true) }) (v := _) rfl (by kernel_rfl) (by kernel_rfl) (by kernel_rfl) (fun _ _ _ h => h) (yieldsIf_load_mid (by rfl) 28 (.tmp 3) rfl W.heap.size 0 rfl _ _ hR1 Try.underlying28 rfl (by kernel_rfl)) (by assumption) ?_
          try simp only [Act.put, List.setIfInBounds_toArray, List.set_cons_zero, List.set_cons_succ]
          refine wpAnyH_take (i := 3) (oi := { dst := some 44, op := Op.load 28 (Operand.tmp 8), type := 28, pos := _, after := #[{ on := 1, ground := Ground.guard }], guard := some (1, true) }) (v := _) rfl (by kernel_rfl) (by kernel_rfl) (by kernel_rfl) (fun _ _ _ h => h) (yieldsIf_load_mid (by rfl) 28 (.tmp 8) rfl w2.heap.size 0 rfl _ _ hR2 Try.underlying28 rfl (by kernel_rfl)) (by assumption) ?_
          try simp only [Act.put, List.setIfInBounds_toArray, List.set_cons_zero, List.set_cons_succ]
          refine wpAnyH_ready (rs := [4]) (by kernel_rfl) (by simp) ?_
          refine AllReadyH.cons (o := { dst := some 45, op := Op.call { callee := Callee.value (Operand.func 20), args := #[Operand.tmp 43, Operand.tmp 44], argTypes := #[28, 28] }, type := 4, pos := _, after := #[{ on := 2, ground := Ground.data }, { on := 3, ground := Ground.data }, { on := 1, ground := Ground.chain }, { on := 1, ground := Ground.guard }], guard := some (1, true) }) rfl (fun K hK => ?_) AllReadyH.nil
          go_simp
          go_at_call 20
          refine (answers_any id id op rc op 0 (fun j => j == 6 || F j) (fun _ => false) (hQL.out _ hbw7.out) (hQL.out _ hbw7.out) (.slice a1 n1 c1) (.slice a2 n2 c2) (.slice a3 n3 c3) (.slice none 0 0) (.slice none 0 0) (.slice none 0 0)).mono ?_
          rintro e w8 ⟨rfl, hbn⟩
          rw [r1.out]
          have hbw8 := Lib.hid (hbw7.out.trans (hbn.mono hbw7.out.size))
          have hcw8 := Lib.hid (hcw7.out.trans (hbn.mono hcw7.out.size))
          clear hbn
          go_wp2_with fail
          refine hK.out _ _ (hSB.out _ hcw8.out) (fun hHeld => ?_)
          clear hK K
          try simp only [Act.put, List.setIfInBounds_toArray, List.set_cons_zero, List.set_cons_succ]
          refine wpAnyH_take (i := 5) (oi := { dst := some 46, op := Op.pick (Operand.tmp 42) (Operand.tmp 45) (Operand.const (Value.bool false)), type := 4, pos := _, after := #[{ on := 1, ground := Ground.data }, { on := 4, ground := Ground.data }], guard := none }) (v := ?_) rfl (by kernel_rfl) (by kernel_rfl) (by kernel_rfl) (fun _ _ _ h => h) (Or.inl ⟨by rfl, ?_⟩) (by assumption) ?_
          rotate_left
          · intro w hSw
            go_simp
            first | done | with_reducible rfl
          try simp only [Act.put, List.setIfInBounds_toArray, List.set_cons_zero, List.set_cons_succ]
          refine wpAnyH_take (i := 6) (oi := { dst := some 47, op := Op.move (Operand.tmp 46), type := 4, pos := _, after := #[{ on := 5, ground := Ground.data }, { on := 4, ground := Ground.chain }], guard := none }) (v := ?_) rfl (by kernel_rfl) (by kernel_rfl) (by kernel_rfl) (fun _ _ _ h => h) (Or.inl ⟨by rfl, ?_⟩) (by assumption) ?_
          rotate_left
          · intro w hSw
            go_simp
            first | done | with_reducible rfl
          try simp only [Act.put, List.setIfInBounds_toArray, List.set_cons_zero, List.set_cons_succ]
          refine wpAnyH_take (i := 7) (oi := { dst := some 48, op := Op.load 28 (Operand.tmp 9), type := 28, pos := _, after := #[{ on := 6, ground := Ground.guard }], guard := some (6, true) }) (v := _) rfl (by kernel_rfl) (by kernel_rfl) (by kernel_rfl) (fun _ _ _ h => h) (yieldsIf_load_mid (by rfl) 28 (.tmp 9) rfl wa.heap.size 0 rfl _ _ hR3 Try.underlying28 rfl (by kernel_rfl)) (by assumption) ?_
          try simp only [Act.put, List.setIfInBounds_toArray, List.set_cons_zero, List.set_cons_succ]
          refine wpAnyH_take (i := 8) (oi := { dst := some 49, op := Op.load 28 (Operand.tmp 8), type := 28, pos := _, after := #[{ on := 6, ground := Ground.guard }], guard := some (6, true) }) (v := _) rfl (by kernel_rfl) (by kernel_rfl) (by kernel_rfl) (fun _ _ _ h => h) (yieldsIf_load_mid (by rfl) 28 (.tmp 8) rfl w2.heap.size 0 rfl _ _ hR2 Try.underlying28 rfl (by kernel_rfl)) (by assumption) ?_
          try simp only [Act.put, List.setIfInBounds_toArray, List.set_cons_zero, List.set_cons_succ]
          refine wpAnyH_ready (rs := [9]) (by kernel_rfl) (by simp) ?_
          refine AllReadyH.cons (o := { dst := some 50, op := Op.call { callee := Callee.value (Operand.func 20), args := #[Operand.tmp 48, Operand.tmp 49], argTypes := #[28, 28] }, type := 4, pos := _, after := #[{ on := 7, ground := Ground.data }, { on := 8, ground := Ground.data }, { on := 6, ground := Ground.chain }, { on := 6, ground := Ground.guard }], guard := some (6, true) }) rfl (fun K hK => ?_) AllReadyH.nil
          go_simp
          go_at_call 20
          refine (answers_len id op rc 0 (fun j => j == 6 || F j) rfl (Nat.succ_ne_self n) (.slice a1 n1 c1) (.slice a2 n2 c2) (.slice a3 n3 c3) (.slice none 0 0) (.slice none 0 0) (.slice none 0 0)).mono ?_
          rintro e w9 ⟨rfl, hbn⟩
          have hbw9 := Lib.hid (hbw8.out.trans (hbn.mono hbw8.out.size))
          have hcw9 := Lib.hid (hcw8.out.trans (hbn.mono hcw8.out.size))
          clear hbn
          go_wp2_with fail
          refine hK.out _ _ (hSB.out _ hcw9.out) (fun hHeld => ?_)
          clear hK K
          try simp only [Act.put, List.setIfInBounds_toArray, List.set_cons_zero, List.set_cons_succ]
          refine wpAnyH_take (i := 10) (oi := { dst := some 51, op := Op.unOp UnOp.not 4 (Operand.tmp 50), type := 4, pos := _, after := #[{ on := 9, ground := Ground.data }, { on := 6, ground := Ground.guard }], guard := some (6, true) }) (v := ?_) rfl (by kernel_rfl) (by kernel_rfl) (by kernel_rfl) (fun _ _ _ h => h) (Or.inl ⟨by rfl, ?_⟩) (by assumption) ?_
          rotate_left
          · intro w hSw
            go_simp
            first | done | with_reducible rfl
          try simp only [Act.put, List.setIfInBounds_toArray, List.set_cons_zero, List.set_cons_succ]
          refine wpAnyH_take (i := 11) (oi := { dst := some 52, op := Op.pick (Operand.tmp 47) (Operand.tmp 51) (Operand.const (Value.bool false)), type := 4, pos := _, after := #[{ on := 6, ground := Ground.data }, { on := 10, ground := Ground.data }], guard := none }) (v := ?_) rfl (by kernel_rfl) (by kernel_rfl) (by kernel_rfl) (fun _ _ _ h => h) (Or.inl ⟨by rfl, ?_⟩) (by assumption) ?_
          rotate_left
          · intro w hSw
            go_simp
            first | done | with_reducible rfl
          try simp only [Act.put, List.setIfInBounds_toArray, List.set_cons_zero, List.set_cons_succ]
          refine wpAnyH_take (i := 12) (oi := { dst := some 53, op := Op.move (Operand.tmp 52), type := 4, pos := _, after := #[{ on := 11, ground := Ground.data }, { on := 9, ground := Ground.chain }], guard := none }) (v := ?_) rfl (by kernel_rfl) (by kernel_rfl) (by kernel_rfl) (fun _ _ _ h => h) (Or.inl ⟨by rfl, ?_⟩) (by assumption) ?_
          rotate_left
          · intro w hSw
            go_simp
            first | done | with_reducible rfl
          try simp only [Act.put, List.setIfInBounds_toArray, List.set_cons_zero, List.set_cons_succ]
          refine wpAnyH_take (i := 13) (oi := { dst := some 54, op := Op.load 28 (Operand.tmp 10), type := 28, pos := _, after := #[{ on := 12, ground := Ground.guard }], guard := some (12, true) }) (v := _) rfl (by kernel_rfl) (by kernel_rfl) (by kernel_rfl) (fun _ _ _ h => h) (yieldsIf_load_mid (by rfl) 28 (.tmp 10) rfl w5.heap.size 0 rfl _ _ hR4 Try.underlying28 rfl (by kernel_rfl)) (by assumption) ?_
          try simp only [Act.put, List.setIfInBounds_toArray, List.set_cons_zero, List.set_cons_succ]
          refine wpAnyH_take (i := 14) (oi := { dst := some 55, op := Op.load 28 (Operand.tmp 8), type := 28, pos := _, after := #[{ on := 12, ground := Ground.guard }], guard := some (12, true) }) (v := _) rfl (by kernel_rfl) (by kernel_rfl) (by kernel_rfl) (fun _ _ _ h => h) (yieldsIf_load_mid (by rfl) 28 (.tmp 8) rfl w2.heap.size 0 rfl _ _ hR2 Try.underlying28 rfl (by kernel_rfl)) (by assumption) ?_
          try simp only [Act.put, List.setIfInBounds_toArray, List.set_cons_zero, List.set_cons_succ]
          refine wpAnyH_take (i := 16) (oi := { dst := some 57, op := Op.move (Operand.tmp 1), type := 24, pos := _, after := #[{ on := 12, ground := Ground.guard }], guard := some (12, true) }) (v := ?_) rfl (by kernel_rfl) (by kernel_rfl) (by kernel_rfl) (fun _ _ _ h => h) (Or.inl ⟨by rfl, ?_⟩) (by assumption) ?_
          rotate_left
          · intro w hSw
            go_simp
            first | done | with_reducible rfl
          try simp only [Act.put, List.setIfInBounds_toArray, List.set_cons_zero, List.set_cons_succ]
          refine wpAnyH_take (i := 17) (oi := { dst := some 58, op := Op.fieldAddr 28 (Operand.tmp 3) 0, type := 0, pos := _, after := #[{ on := 12, ground := Ground.guard }], guard := some (12, true) }) (v := ?_) rfl (by kernel_rfl) (by kernel_rfl) (by kernel_rfl) (fun _ _ _ h => h) (Or.inl ⟨by rfl, ?_⟩) (by assumption) ?_
          rotate_left
          · intro w hSw
            go_simp
            first | done | with_reducible rfl
          try simp only [Act.put, List.setIfInBounds_toArray, List.set_cons_zero, List.set_cons_succ]
          refine wpAnyH_take (i := 18) (oi := { dst := some 59, op := Op.load 24 (Operand.tmp 58), type := 24, pos := _, after := #[{ on := 17, ground := Ground.data }, { on := 12, ground := Ground.guard }], guard := some (12, true) }) (v := .int .u16 (id : Int)) rfl (by kernel_rfl) (by kernel_rfl) (by kernel_rfl) (fun _ _ _ h => h) (Or.inl ⟨by rfl, ?_⟩) (by assumption) ?_
          · intro w hSw
            have hcc : w.cell? ⟨W.heap.size, 0, none⟩ = some (.int .u16 (id : Int)) := (hSw.1.cell 0).trans rfl
            go_simp
          try simp only [Act.put, List.setIfInBounds_toArray, List.set_cons_zero, List.set_cons_succ]
          refine wpAnyH_take (i := 19) (oi := { dst := some 60, op := Op.binOp BinOp.eql 24 (Operand.tmp 57) (Operand.tmp 59) 24, type := 4, pos := _, after := #[{ on := 16, ground := Ground.data }, { on := 18, ground := Ground.data }, { on := 12, ground := Ground.guard }], guard := some (12, true) }) (v := ?_) rfl (by kernel_rfl) (by kernel_rfl) (by kernel_rfl) (fun _ _ _ h => h) (Or.inl ⟨by rfl, ?_⟩) (by assumption) ?_
          rotate_left
          · intro w hSw
            go_simp
            first | done | with_reducible rfl
          try simp only [Act.put, List.setIfInBounds_toArray, List.set_cons_zero, List.set_cons_succ]
          refine wpAnyH_ready (rs := [15]) (by kernel_rfl) (by simp) ?_
          refine AllReadyH.cons (o := { dst := some 56, op := Op.call { callee := Callee.value (Operand.func 20), args := #[Operand.tmp 54, Operand.tmp 55], argTypes := #[28, 28] }, type := 4, pos := _, after := #[{ on := 13, ground := Ground.data }, { on := 14, ground := Ground.data }, { on := 12, ground := Ground.chain }, { on := 12, ground := Ground.guard }], guard := some (12, true) }) rfl (fun K hK => ?_) AllReadyH.nil
          go_simp
          go_at_call 20
          refine (answers_any i2 id op rc op 0 (fun j => j == 6 || F j) (fun _ => false) (hQL.out _ hbw9.out) (hQL.out _ hbw9.out) (.slice a1 n1 c1) (.slice a2 n2 c2) (.slice a3 n3 c3) (.slice none 0 0) (.slice none 0 0) (.slice none 0 0)).mono ?_
          rintro e w10 ⟨rfl, hbn⟩
          rw [r3.out]
          have hbw10 := Lib.hid (hbw9.out.trans (hbn.mono hbw9.out.size))
          have hcw10 := Lib.hid (hcw9.out.trans (hbn.mono hcw9.out.size))
          clear hbn
          go_wp2_with fail
          refine hK.out _ _ (hSB.out _ hcw10.out) (fun hHeld => ?_)
          clear hK K
          try simp only [Act.put, List.setIfInBounds_toArray, List.set_cons_zero, List.set_cons_succ]
          refine wpAnyH_take (i := 20) (oi := { dst := some 61, op := Op.binOp BinOp.eql 4 (Operand.tmp 56) (Operand.tmp 60) 4, type := 4, pos := _, after := #[{ on := 15, ground := Ground.data }, { on := 19, ground := Ground.data }, { on := 12, ground := Ground.guard }], guard := some (12, true) }) (v := ?_) rfl (by kernel_rfl) (by kernel_rfl) (by kernel_rfl) (fun _ _ _ h => h) (Or.inl ⟨by rfl, ?_⟩) (by assumption) ?_
          rotate_left
          · intro w hSw
            go_simp
            first | done | with_reducible rfl
          try simp only [Act.put, List.setIfInBounds_toArray, List.set_cons_zero, List.set_cons_succ]
          refine wpAnyH_take (i := 21) (oi := { dst := some 62, op := Op.pick (Operand.tmp 53) (Operand.tmp 61) (Operand.const (Value.bool false)), type := 4, pos := _, after := #[{ on := 12, ground := Ground.data }, { on := 20, ground := Ground.data }], guard := none }) (v := ?_) rfl (by kernel_rfl) (by kernel_rfl) (by kernel_rfl) (fun _ _ _ h => h) (Or.inl ⟨by rfl, ?_⟩) (by assumption) ?_
          rotate_left
          · intro w hSw
            go_simp
            first | done | with_reducible rfl
          try simp only [Act.put, List.setIfInBounds_toArray, List.set_cons_zero, List.set_cons_succ]
          refine wpAnyH_take (i := 22) (oi := { dst := some 63, op := Op.move (Operand.tmp 62), type := 4, pos := _, after := #[{ on := 21, ground := Ground.data }, { on := 15, ground := Ground.chain }], guard := none }) (v := ?_) rfl (by kernel_rfl) (by kernel_rfl) (by kernel_rfl) (fun _ _ _ h => h) (Or.inl ⟨by rfl, ?_⟩) (by assumption) ?_
          rotate_left
          · intro w hSw
            go_simp
            first | done | with_reducible rfl
          try simp only [Act.put, List.setIfInBounds_toArray, List.set_cons_zero, List.set_cons_succ]
          refine wpAnyH_take (i := 23) (oi := { dst := some 64, op := Op.load 28 (Operand.tmp 8), type := 28, pos := _, after := #[{ on := 22, ground := Ground.guard }], guard := some (22, true) }) (v := _) rfl (by kernel_rfl) (by kernel_rfl) (by kernel_rfl) (fun _ _ _ h => h) (yieldsIf_load_mid (by rfl) 28 (.tmp 8) rfl w2.heap.size 0 rfl _ _ hR2 Try.underlying28 rfl (by kernel_rfl)) (by assumption) ?_
          try simp only [Act.put, List.setIfInBounds_toArray, List.set_cons_zero, List.set_cons_succ]
          refine wpAnyH_take (i := 24) (oi := { dst := some 65, op := Op.load 28 (Operand.tmp 3), type := 28, pos := _, after := #[{ on := 22, ground := Ground.guard }], guard := some (22, true) }) (v := _) rfl (by kernel_rfl) (by kernel_rfl) (by kernel_rfl) (fun _ _ _ h => h) (yieldsIf_load_mid (by rfl) 28 (.tmp 3) rfl W.heap.size 0 rfl _ _ hR1 Try.underlying28 rfl (by kernel_rfl)) (by assumption) ?_
          try simp only [Act.put, List.setIfInBounds_toArray, List.set_cons_zero, List.set_cons_succ]
          refine wpAnyH_ready (rs := [25]) (by kernel_rfl) (by simp) ?_
          refine AllReadyH.cons (o := { dst := some 66, op := Op.call { callee := Callee.value (Operand.func 20), args := #[Operand.tmp 64, Operand.tmp 65], argTypes := #[28, 28] }, type := 4, pos := _, after := #[{ on := 23, ground := Ground.data }, { on := 24, ground := Ground.data }, { on := 22, ground := Ground.chain }, { on := 22, ground := Ground.guard }], guard := some (22, true) }) rfl (fun K hK => ?_) AllReadyH.nil
          go_simp
          go_at_call 20
          refine (answers_any id id op 0 op rc (fun _ => false) (fun j => j == 6 || F j) (hQL.out _ hbw10.out) (hQL.out _ hbw10.out) (.slice none 0 0) (.slice none 0 0) (.slice none 0 0) (.slice a1 n1 c1) (.slice a2 n2 c2) (.slice a3 n3 c3)).mono ?_
          rintro e w11 ⟨rfl, hbn⟩
          rw [r4.out]
          have hbw11 := Lib.hid (hbw10.out.trans (hbn.mono hbw10.out.size))
          have hcw11 := Lib.hid (hcw10.out.trans (hbn.mono hcw10.out.size))
          clear hbn
          go_wp2_with fail
          refine hK.out _ _ (hSB.out _ hcw11.out) (fun hHeld => ?_)
          clear hK K
          try simp only [Act.put, List.setIfInBounds_toArray, List.set_cons_zero, List.set_cons_succ]
          refine wpAnyH_take (i := 26) (oi := { dst := some 67, op := Op.unOp UnOp.not 4 (Operand.tmp 66), type := 4, pos := _, after := #[{ on := 25, ground := Ground.data }, { on := 22, ground := Ground.guard }], guard := some (22, true) }) (v := ?_) rfl (by kernel_rfl) (by kernel_rfl) (by kernel_rfl) (fun _ _ _ h => h) (Or.inl ⟨by rfl, ?_⟩) (by assumption) ?_
          rotate_left
          · intro w hSw
            go_simp
            first | done | with_reducible rfl
          try simp only [Act.put, List.setIfInBounds_toArray, List.set_cons_zero, List.set_cons_succ]
          refine wpAnyH_take (i := 27) (oi := { dst := some 68, op := Op.pick (Operand.tmp 63) (Operand.tmp 67) (Operand.const (Value.bool false)), type := 4, pos := _, after := #[{ on := 22, ground := Ground.data }, { on := 26, ground := Ground.data }], guard := none }) (v := ?_) rfl (by kernel_rfl) (by kernel_rfl) (by kernel_rfl) (fun _ _ _ h => h) (Or.inl ⟨by rfl, ?_⟩) (by assumption) ?_
          rotate_left
          · intro w hSw
            go_simp
            first | done | with_reducible rfl
          try simp only [Act.put, List.setIfInBounds_toArray, List.set_cons_zero, List.set_cons_succ]
          refine wpAnyH_take (i := 28) (oi := { dst := some 6, op := Op.assign (Operand.tmp 68), type := 4, pos := _, after := #[{ on := 27, ground := Ground.data }, { on := 25, ground := Ground.chain }, { on := 0, ground := Ground.phase }, { on := 1, ground := Ground.phase }, { on := 2, ground := Ground.phase }, { on := 3, ground := Ground.phase }, { on := 4, ground := Ground.phase }, { on := 5, ground := Ground.phase }, { on := 6, ground := Ground.phase }, { on := 7, ground := Ground.phase }, { on := 8, ground := Ground.phase }, { on := 9, ground := Ground.phase }, { on := 10, ground := Ground.phase }, { on := 11, ground := Ground.phase }, { on := 12, ground := Ground.phase }, { on := 13, ground := Ground.phase }, { on := 14, ground := Ground.phase }, { on := 15, ground := Ground.phase }, { on := 16, ground := Ground.phase }, { on := 17, ground := Ground.phase }, { on := 18, ground := Ground.phase }, { on := 19, ground := Ground.phase }, { on := 20, ground := Ground.phase }, { on := 21, ground := Ground.phase }, { on := 22, ground := Ground.phase }, { on := 23, ground := Ground.phase }, { on := 24, ground := Ground.phase }, { on := 25, ground := Ground.phase }, { on := 26, ground := Ground.phase }, { on := 27, ground := Ground.phase }], guard := none }) (v := ?_) rfl (by kernel_rfl) (by kernel_rfl) (by kernel_rfl) (fun _ _ _ h => h) (Or.inl ⟨by rfl, ?_⟩) (by assumption) ?_
          rotate_left
          · intro w hSw
            go_simp
            first | done | with_reducible rfl
          try simp only [Act.put, List.setIfInBounds_toArray, List.set_cons_zero, List.set_cons_succ]
          refine wpAnyH_done (by kernel_rfl) ?_ _
          refine NoPanic.normal ?_
          go_wp2_with fail
          go_ret
          exact ⟨rfl, hbw11.out⟩
    · have h130I : (130 : Int) < qd.nn := by omega
      go_wp2_with fail
      go_ret
      exact ⟨rfl, hb4.out⟩
  · go_wp2_with fail
    go_ret
    exact ⟨rfl, hb4.out⟩
section
open Go.Joins Go.ChangeShapes Go.WideShapes Go.Deep
theorem headerAnswers_law {H : Type} {enc : TypeId × Value → H} {W : World} {ts : List TypeId} {ds : List (DataW H)} (v : Value) (d : DataW H) (p : List MemPlace) (h : DataW.Trod enc Try.prog W 0 (fun _ => true) true 28 v d p) {r : Reach} {b0 : Nat} (hv : Value.okWide Try.prog W r b0 28 v) (_ : (DataW.weightsEach Try.prog ts ds).all (· ≤ reachBytes) = true) (hz : Sz Try.prog 28 d)
    (x : Int) (hx : (Lit.int .u16 x).wf = true)
    (v' : Value) (d' : DataW H) (p' : List MemPlace) (h' : DataW.Trod enc Try.prog W 0 (fun _ => true) true 50 v' d' p') {r' : Reach} {b0' : Nat} (hv' : Value.okWide Try.prog W r' b0' 50 v') (_ : (DataW.weightsEach Try.prog ts ds).all (· ≤ reachBytes) = true) (hz' : Sz Try.prog 50 d') (_ : World) :
    Calls Try.prog 6 #[v, .int .u16 x, v'] W fun e w' => e = .returned (.bool true) ∧ Below W.heap.size W w' := by
  obtain ⟨id, op, rc, F, a, n, c, R, a1, n1, c1, a2, n2, c2, a3, n3, c3, _, rfl, hR, hN, _⟩ := open_msg hv h hz
  obtain ⟨q, rfl, _⟩ := open_question hv' h' hz'
  have hb : 0 ≤ x ∧ x < 65536 := by
    simp [Lit.wf, IntKind.min, IntKind.max, IntKind.signed, IntKind.bits] at hx
    omega
  obtain ⟨i2, rfl⟩ : ∃ i2 : Nat, x = (i2 : Int) := ⟨x.toNat, by omega⟩
  exact headerAnswers_walk id op rc F hR hN a1 n1 c1 a2 n2 c2 a3 n3 c3 i2 q
end
end Go.Proofs.Ytbpkhnnfdjihdaa
