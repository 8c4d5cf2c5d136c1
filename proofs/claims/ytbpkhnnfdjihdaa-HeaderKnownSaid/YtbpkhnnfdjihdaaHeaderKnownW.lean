/- The law HeaderKnown, walked. -/
import Derived.Test.YtbpkhnnfdjihdaaHdAn
import Derived.Test.YtbpkhnnfdjihdaaHdSm
import Derived.Test.YtbpkhnnfdjihdaaHdSo
namespace Go.Proofs.Ytbpkhnnfdjihdaa
open Go Go.RowKit Go.Maps
def dK : List UInt8 := [1, 2, 133, 3, 0, 1, 0, 0, 0, 1, 0, 0]
def d11 : List UInt8 := [0, 0, 0, 0, 0, 0, 0, 0, 0, 0, 0]
def d64 : List UInt8 := [0, 0, 0, 64, 0, 0, 0, 0, 0, 0, 0, 0]
theorem bytes258 {W : World} : Calls Try.prog 14 #[mV (258 : Nat) (0 : Nat) (3 : Nat) tF (.slice none 0 0) (.slice none 0 0) (.slice none 0 0) (.slice none 0 0), cV 1 0 1 0] W fun e w' => (∃ v, e = .returned (.tuple #[v, .int .i64 0]) ∧ Own byteE w' W.heap.size v dK) ∧ Below W.heap.size W w' := by
  refine (bytes_any (W := W) 258 0 3 tF (.slice none 0 0) (.slice none 0 0) (.slice none 0 0) (.slice none 0 0) 1 0 1 0 (by decide) (by decide) (by decide)).mono ?_
  rintro e w' ⟨h1, h2⟩
  unfold ByRes at h1
  rw [if_pos (by decide)] at h1
  obtain ⟨v, e1, e2⟩ := h1
  refine ⟨⟨v, e1, ?_⟩, h2⟩
  unfold dK
  rw [← awake_list]
  exact e2
theorem bytes16 {W : World} : Calls Try.prog 14 #[mV (0 : Nat) 16 0 (fun _ => false) (.slice none 0 0) (.slice none 0 0) (.slice none 0 0) (.slice none 0 0), cV 0 0 0 0] W fun e w' => e = .returned (.tuple #[.slice none 0 0, .int .i64 2]) ∧ Below W.heap.size W w' :=
  bytes_bad1 (W := W) 0 16 0 _ _ _ _ _ 0 0 0 0 (by decide)
theorem bytes65536 {W : World} : Calls Try.prog 14 #[mV (0 : Nat) (0 : Nat) (0 : Nat) (fun _ => false) (.slice none 0 0) (.slice none 0 0) (.slice none 0 0) (.slice none 0 0), cV 65536 0 0 0] W fun e w' => e = .returned (.tuple #[.slice none 0 0, .int .i64 2]) ∧ Below W.heap.size W w' := by
  refine (bytes_any (W := W) 0 0 0 (fun _ => false) (.slice none 0 0) (.slice none 0 0) (.slice none 0 0) (.slice none 0 0) 65536 0 0 0 (by decide) (by decide) (by decide)).mono ?_
  rintro e w' ⟨h1, h2⟩
  unfold ByRes at h1
  rw [if_neg (by decide)] at h1
  exact ⟨h1, h2⟩
theorem readK {W : World} {a : Option Addr} {n c : Nat} (h : Rd byteE W a n c dK) (hn : n ≤ 140737488355328) :
    Calls Try.prog 9 #[.slice a n c] W fun e w' => e = .returned (.tuple #[.agg #[.int .u16 258, .bool true, .int .i64 0, .bool true, .bool false, .bool true, .bool false, .bool false, .bool false, .int .i64 3, .slice none 0 0, .slice none 0 0, .slice none 0 0, .slice none 0 0], .agg #[.int .i64 1, .int .i64 0, .int .i64 1, .int .i64 0], .int .i64 0]) ∧ Below W.heap.size W w' := by
  refine (read_any h hn).mono ?_
  rintro e w' ⟨h1, h2⟩
  exact ⟨h1.trans (congrArg _ (by kernel_rfl)), h2⟩
theorem read11 {W : World} {a : Option Addr} {n c : Nat} (h : Rd byteE W a n c d11) (hn : n ≤ 140737488355328) :
    Calls Try.prog 9 #[.slice a n c] W fun e w' => e = .returned (.tuple #[.agg #[.int .u16 0, .bool false, .int .i64 0, .bool false, .bool false, .bool false, .bool false, .bool false, .bool false, .int .i64 0, .slice none 0 0, .slice none 0 0, .slice none 0 0, .slice none 0 0], .agg #[.int .i64 0, .int .i64 0, .int .i64 0, .int .i64 0], .int .i64 8]) ∧ Below W.heap.size W w' := by
  refine (read_any h hn).mono ?_
  rintro e w' ⟨h1, h2⟩
  exact ⟨h1.trans (congrArg _ (by kernel_rfl)), h2⟩
theorem read64 {W : World} {a : Option Addr} {n c : Nat} (h : Rd byteE W a n c d64) (hn : n ≤ 140737488355328) :
    Calls Try.prog 9 #[.slice a n c] W fun e w' => e = .returned (.tuple #[.agg #[.int .u16 0, .bool false, .int .i64 0, .bool false, .bool false, .bool false, .bool false, .bool false, .bool false, .int .i64 0, .slice none 0 0, .slice none 0 0, .slice none 0 0, .slice none 0 0], .agg #[.int .i64 0, .int .i64 0, .int .i64 0, .int .i64 0], .int .i64 8]) ∧ Below W.heap.size W w' := by
  refine (read_any h hn).mono ?_
  rintro e w' ⟨h1, h2⟩
  exact ⟨h1.trans (congrArg _ (by kernel_rfl)), h2⟩
theorem qs_one {X : World} {b bn : Nat} {t k : Int} {s : List UInt8} (h1 : Blk X bn 9 (0, 0) [.string (mk s)]) (h2 : Blk X b 50 (0, 0) [.slice (some ⟨bn, 0, none⟩) 1 1, .int .u16 t, .int .u16 k]) (hs : s.length ≤ 100) :
    QsL X (some ⟨b, 0, none⟩) 1 1 [([s], t, k)] :=
  ⟨rfl, by decide, fun _ => ⟨b, 0, rfl, h2.lt, fun j hj => by
    have hj0 : j = 0 := by simpa using hj
    subst hj0
    refine ⟨_, _, _, (h2.cell 0).trans rfl, ⟨rd_blk (E := strE) h1 1 rfl (by decide), by decide, fun x hx => ?_⟩, (h2.cell 1).trans rfl, (h2.cell 2).trans rfl⟩
    have : x = s := by simpa using hx
    subst this
    omega⟩⟩
set_option maxHeartbeats 16000000 in
set_option maxRecDepth 100000 in
theorem headerKnown_walk (W : World) : Calls Try.prog 7 #[] W fun e w' => e = .returned (.bool true) ∧ Below W.heap.size W w' := by
  go_enter Try.func7, Try.ntmps7
  go_wp2_with fail
  refine bytes258.mono ?_
  rintro e w1 ⟨⟨v, rfl, hO⟩, hb1⟩
  obtain ⟨a, c, rfl, hR⟩ := hO.rd
  have hR' := Lib.hid hR
  have hb1' := Lib.hid hb1
  clear hO hR hb1
  go_wp2_with fail
  refine (readK hR'.out (by decide)).mono ?_
  rintro e w2 ⟨rfl, hb2⟩
  have hb2' := Lib.hid (hb1'.out.trans (hb2.mono hb1'.out.size))
  clear hb1' hb2 hR'
  go_wp2_with fail
  have hbB : Below w2.heap.size w2 ((w2.alloc (.cells #[.int .u16 258, .bool true, .int .i64 0, .bool true, .bool false, .bool true, .bool false, .bool false, .bool false, .int .i64 3, .slice none 0 0, .slice none 0 0, .slice none 0 0, .slice none 0 0] 28)).alloc (.cells #[.int .i64 1, .int .i64 0, .int .i64 1, .int .i64 0] 29)) := ((Below.refl _ _).alloc (Nat.le_refl _) _).alloc (by simp) _
  have hBM : Blk ((w2.alloc (.cells #[.int .u16 258, .bool true, .int .i64 0, .bool true, .bool false, .bool true, .bool false, .bool false, .bool false, .int .i64 3, .slice none 0 0, .slice none 0 0, .slice none 0 0, .slice none 0 0] 28)).alloc (.cells #[.int .i64 1, .int .i64 0, .int .i64 1, .int .i64 0] 29)) w2.heap.size 28 (0, 0) (#[.int .u16 258, .bool true, .int .i64 0, .bool true, .bool false, .bool true, .bool false, .bool false, .bool false, .int .i64 3, .slice none 0 0, .slice none 0 0, .slice none 0 0, .slice none 0 0] : Array Value).toList := (Blk.new w2 28 (0, 0) #[.int .u16 258, .bool true, .int .i64 0, .bool true, .bool false, .bool true, .bool false, .bool false, .bool false, .int .i64 3, .slice none 0 0, .slice none 0 0, .slice none 0 0, .slice none 0 0]).alloc _
  have hBN : Blk ((w2.alloc (.cells #[.int .u16 258, .bool true, .int .i64 0, .bool true, .bool false, .bool true, .bool false, .bool false, .bool false, .int .i64 3, .slice none 0 0, .slice none 0 0, .slice none 0 0, .slice none 0 0] 28)).alloc (.cells #[.int .i64 1, .int .i64 0, .int .i64 1, .int .i64 0] 29)) (w2.heap.size + 1) 29 (0, 0) (#[.int .i64 1, .int .i64 0, .int .i64 1, .int .i64 0] : Array Value).toList := by
    simpa using Blk.new (w2.alloc (.cells #[.int .u16 258, .bool true, .int .i64 0, .bool true, .bool false, .bool true, .bool false, .bool false, .bool false, .int .i64 3, .slice none 0 0, .slice none 0 0, .slice none 0 0, .slice none 0 0] 28)) 29 (0, 0) #[.int .i64 1, .int .i64 0, .int .i64 1, .int .i64 0]
  have hWW := Lib.hid (And.intro hbB (And.intro hBM hBN))
  clear hbB hBM hBN
  generalize ((w2.alloc (.cells #[.int .u16 258, .bool true, .int .i64 0, .bool true, .bool false, .bool true, .bool false, .bool false, .bool false, .int .i64 3, .slice none 0 0, .slice none 0 0, .slice none 0 0, .slice none 0 0] 28)).alloc (.cells #[.int .i64 1, .int .i64 0, .int .i64 1, .int .i64 0] 29)) = WB at *
  have hbW := Lib.hid (hb2'.out.trans (hWW.out.1.mono hb2'.out.size))
  have hBM := Lib.hid hWW.out.2.1
  have hBN := Lib.hid hWW.out.2.2
  clear hb2' hWW
  have hmk : ∀ u : World, (Instr.makeSlice 22 (.int .i64 11) (.int .i64 11)).run Try.prog u = .ok (.slice (some ⟨u.heap.size, 0, none⟩) 11 11) (u.alloc (.cells (u8s d11).toArray 5)) := fun u => by
    obtain ⟨i0, hi, hz0, hz1, hz2⟩ := info_parts Try.info5
    have h := run_make (P := Try.prog) u 22 5 i0 (.int .u8 0) Try.underlying22 hi hz0 .i64 .i64 11 11 (by omega) (Int.le_refl _) (by rw [hz2]; omega) (by omega)
    have hm : madeCells #[.int .u8 0] 11 = (u8s d11).toArray := by kernel_rfl
    simpa [hz1, Value.cells, hm] using h
  have hr11 : Rd byteE (WB.alloc (.cells (u8s d11).toArray 5)) (some ⟨WB.heap.size, 0, none⟩) 11 11 d11 := rd_blk (E := byteE) (by rw [rowOf_byte]; exact Blk.new WB 5 (0, 0) (u8s d11).toArray) 11 rfl (by decide)
  have hb11 : Below WB.heap.size WB (WB.alloc (.cells (u8s d11).toArray 5)) := (Below.refl _ _).alloc (Nat.le_refl _) _
  have hr11' := Lib.hid hr11
  have hb11' := Lib.hid hb11
  clear hr11 hb11
  go_wp2_with fail
  refine (read11 hr11'.out (by decide)).mono ?_
  rintro e w3 ⟨rfl, hb3⟩
  have hb3' := Lib.hid (hb11'.out.trans (hb3.mono hb11'.out.size))
  clear hr11' hb11' hb3 hmk
  have hb4 : Below w3.heap.size w3 (((w3.alloc (.cells #[.int .u16 0, .bool false, .int .i64 0, .bool false, .bool false, .bool false, .bool false, .bool false, .bool false, .int .i64 0, .slice none 0 0, .slice none 0 0, .slice none 0 0, .slice none 0 0] 28)).alloc (.cells #[.int .i64 0, .int .i64 0, .int .i64 0, .int .i64 0] 29)).alloc (.cells #[.int .u8 0, .int .u8 0, .int .u8 0, .int .u8 64, .int .u8 0, .int .u8 0, .int .u8 0, .int .u8 0, .int .u8 0, .int .u8 0, .int .u8 0, .int .u8 0] 5)) := (((Below.refl _ _).alloc (Nat.le_refl _) _).alloc (by simp) _).alloc (by simp; omega) _
  have hr64 : Rd byteE (((w3.alloc (.cells #[.int .u16 0, .bool false, .int .i64 0, .bool false, .bool false, .bool false, .bool false, .bool false, .bool false, .int .i64 0, .slice none 0 0, .slice none 0 0, .slice none 0 0, .slice none 0 0] 28)).alloc (.cells #[.int .i64 0, .int .i64 0, .int .i64 0, .int .i64 0] 29)).alloc (.cells #[.int .u8 0, .int .u8 0, .int .u8 0, .int .u8 64, .int .u8 0, .int .u8 0, .int .u8 0, .int .u8 0, .int .u8 0, .int .u8 0, .int .u8 0, .int .u8 0] 5)) (some ⟨w3.heap.size + 1 + 1, 0, none⟩) 12 12 d64 := by
    have hB : Blk (((w3.alloc (.cells #[.int .u16 0, .bool false, .int .i64 0, .bool false, .bool false, .bool false, .bool false, .bool false, .bool false, .int .i64 0, .slice none 0 0, .slice none 0 0, .slice none 0 0, .slice none 0 0] 28)).alloc (.cells #[.int .i64 0, .int .i64 0, .int .i64 0, .int .i64 0] 29)).alloc (.cells #[.int .u8 0, .int .u8 0, .int .u8 0, .int .u8 64, .int .u8 0, .int .u8 0, .int .u8 0, .int .u8 0, .int .u8 0, .int .u8 0, .int .u8 0, .int .u8 0] 5)) (w3.heap.size + 1 + 1) 5 (0, 0) (#[.int .u8 0, .int .u8 0, .int .u8 0, .int .u8 64, .int .u8 0, .int .u8 0, .int .u8 0, .int .u8 0, .int .u8 0, .int .u8 0, .int .u8 0, .int .u8 0] : Array Value).toList := by simpa using Blk.new ((w3.alloc (.cells #[.int .u16 0, .bool false, .int .i64 0, .bool false, .bool false, .bool false, .bool false, .bool false, .bool false, .int .i64 0, .slice none 0 0, .slice none 0 0, .slice none 0 0, .slice none 0 0] 28)).alloc (.cells #[.int .i64 0, .int .i64 0, .int .i64 0, .int .i64 0] 29)) 5 (0, 0) #[.int .u8 0, .int .u8 0, .int .u8 0, .int .u8 64, .int .u8 0, .int .u8 0, .int .u8 0, .int .u8 0, .int .u8 0, .int .u8 0, .int .u8 0, .int .u8 0]
    exact rd_blk (E := byteE) (by rw [rowOf_byte]; exact hB) 12 rfl (by decide)
  have hb4' := Lib.hid hb4
  have hr64' := Lib.hid hr64
  clear hb4 hr64
  go_wp2_with fail
  refine (read64 hr64'.out (by decide)).mono ?_
  rintro e w4 ⟨rfl, hb5⟩
  have hb5' := Lib.hid (hb3'.out.trans ((hb4'.out.trans (hb5.mono hb4'.out.size)).mono hb3'.out.size))
  clear hb3' hb4' hb5 hr64'
  have hb6 : Below w4.heap.size w4 ((w4.alloc (.cells #[.int .u16 0, .bool false, .int .i64 0, .bool false, .bool false, .bool false, .bool false, .bool false, .bool false, .int .i64 0, .slice none 0 0, .slice none 0 0, .slice none 0 0, .slice none 0 0] 28)).alloc (.cells #[.int .i64 0, .int .i64 0, .int .i64 0, .int .i64 0] 29)) := ((Below.refl _ _).alloc (Nat.le_refl _) _).alloc (by simp) _
  have hb6' := Lib.hid hb6
  clear hb6
  go_wp2_with fail
  refine bytes16.mono ?_
  rintro e w5 ⟨rfl, hb7⟩
  have hb7' := Lib.hid (hb5'.out.trans ((hb6'.out.trans (hb7.mono hb6'.out.size)).mono hb5'.out.size))
  clear hb5' hb6' hb7
  go_wp2_with fail
  refine bytes65536.mono ?_
  rintro e w6 ⟨rfl, hb8⟩
  have hb8' := Lib.hid (hb7'.out.trans (hb8.mono hb7'.out.size))
  clear hb7' hb8
  have hx1 : Below w6.heap.size w6 ((((((w6.alloc (.cells #[.string { data := #[97] }] 9)).alloc (.cells #[.slice (some ⟨w6.heap.size, 0, none⟩) 1 1, .int .u16 1, .int .u16 1] 50)).alloc (.cells #[.int .u16 7, .bool false, .int .i64 0, .bool false, .bool false, .bool false, .bool false, .bool false, .bool false, .int .i64 0, .slice (some ⟨w6.heap.size + 1, 0, none⟩) 1 1, .slice none 0 0, .slice none 0 0, .slice none 0 0] 28)).alloc (.cells #[.string { data := #[65] }] 9)).alloc (.cells #[.slice (some ⟨w6.heap.size + 1 + 1 + 1, 0, none⟩) 1 1, .int .u16 1, .int .u16 1] 50)).alloc (.cells #[.int .u16 7, .bool true, .int .i64 0, .bool false, .bool false, .bool false, .bool false, .bool false, .bool false, .int .i64 0, .slice (some ⟨w6.heap.size + 1 + 1 + 1 + 1, 0, none⟩) 1 1, .slice none 0 0, .slice none 0 0, .slice none 0 0] 28)) := ((((((Below.refl _ _).alloc (Nat.le_refl _) _).alloc (by simp) _).alloc (by simp; omega) _).alloc (by simp; omega) _).alloc (by simp; omega) _).alloc (by simp; omega) _
  have hx2 : Blk ((((((w6.alloc (.cells #[.string { data := #[97] }] 9)).alloc (.cells #[.slice (some ⟨w6.heap.size, 0, none⟩) 1 1, .int .u16 1, .int .u16 1] 50)).alloc (.cells #[.int .u16 7, .bool false, .int .i64 0, .bool false, .bool false, .bool false, .bool false, .bool false, .bool false, .int .i64 0, .slice (some ⟨w6.heap.size + 1, 0, none⟩) 1 1, .slice none 0 0, .slice none 0 0, .slice none 0 0] 28)).alloc (.cells #[.string { data := #[65] }] 9)).alloc (.cells #[.slice (some ⟨w6.heap.size + 1 + 1 + 1, 0, none⟩) 1 1, .int .u16 1, .int .u16 1] 50)).alloc (.cells #[.int .u16 7, .bool true, .int .i64 0, .bool false, .bool false, .bool false, .bool false, .bool false, .bool false, .int .i64 0, .slice (some ⟨w6.heap.size + 1 + 1 + 1 + 1, 0, none⟩) 1 1, .slice none 0 0, .slice none 0 0, .slice none 0 0] 28)) w6.heap.size 9 (0, 0) [.string (mk [97])] := (((((Blk.new w6 9 (0, 0) #[.string { data := #[97] }]).alloc _).alloc _).alloc _).alloc _).alloc _
  have hx3 : Blk ((((((w6.alloc (.cells #[.string { data := #[97] }] 9)).alloc (.cells #[.slice (some ⟨w6.heap.size, 0, none⟩) 1 1, .int .u16 1, .int .u16 1] 50)).alloc (.cells #[.int .u16 7, .bool false, .int .i64 0, .bool false, .bool false, .bool false, .bool false, .bool false, .bool false, .int .i64 0, .slice (some ⟨w6.heap.size + 1, 0, none⟩) 1 1, .slice none 0 0, .slice none 0 0, .slice none 0 0] 28)).alloc (.cells #[.string { data := #[65] }] 9)).alloc (.cells #[.slice (some ⟨w6.heap.size + 1 + 1 + 1, 0, none⟩) 1 1, .int .u16 1, .int .u16 1] 50)).alloc (.cells #[.int .u16 7, .bool true, .int .i64 0, .bool false, .bool false, .bool false, .bool false, .bool false, .bool false, .int .i64 0, .slice (some ⟨w6.heap.size + 1 + 1 + 1 + 1, 0, none⟩) 1 1, .slice none 0 0, .slice none 0 0, .slice none 0 0] 28)) (w6.heap.size + 1) 50 (0, 0) [.slice (some ⟨w6.heap.size, 0, none⟩) 1 1, .int .u16 1, .int .u16 1] := by
    have := Blk.new (w6.alloc (.cells #[.string { data := #[97] }] 9)) 50 (0, 0) #[.slice (some ⟨w6.heap.size, 0, none⟩) 1 1, .int .u16 1, .int .u16 1]
    rw [World.size_alloc] at this
    exact (((this.alloc _).alloc _).alloc _).alloc _
  have hx4 : Blk ((((((w6.alloc (.cells #[.string { data := #[97] }] 9)).alloc (.cells #[.slice (some ⟨w6.heap.size, 0, none⟩) 1 1, .int .u16 1, .int .u16 1] 50)).alloc (.cells #[.int .u16 7, .bool false, .int .i64 0, .bool false, .bool false, .bool false, .bool false, .bool false, .bool false, .int .i64 0, .slice (some ⟨w6.heap.size + 1, 0, none⟩) 1 1, .slice none 0 0, .slice none 0 0, .slice none 0 0] 28)).alloc (.cells #[.string { data := #[65] }] 9)).alloc (.cells #[.slice (some ⟨w6.heap.size + 1 + 1 + 1, 0, none⟩) 1 1, .int .u16 1, .int .u16 1] 50)).alloc (.cells #[.int .u16 7, .bool true, .int .i64 0, .bool false, .bool false, .bool false, .bool false, .bool false, .bool false, .int .i64 0, .slice (some ⟨w6.heap.size + 1 + 1 + 1 + 1, 0, none⟩) 1 1, .slice none 0 0, .slice none 0 0, .slice none 0 0] 28)) (w6.heap.size + 1 + 1) 28 (0, 0) (#[.int .u16 7, .bool false, .int .i64 0, .bool false, .bool false, .bool false, .bool false, .bool false, .bool false, .int .i64 0, .slice (some ⟨w6.heap.size + 1, 0, none⟩) 1 1, .slice none 0 0, .slice none 0 0, .slice none 0 0] : Array Value).toList := by
    have := Blk.new ((w6.alloc (.cells #[.string { data := #[97] }] 9)).alloc (.cells #[.slice (some ⟨w6.heap.size, 0, none⟩) 1 1, .int .u16 1, .int .u16 1] 50)) 28 (0, 0) #[.int .u16 7, .bool false, .int .i64 0, .bool false, .bool false, .bool false, .bool false, .bool false, .bool false, .int .i64 0, .slice (some ⟨w6.heap.size + 1, 0, none⟩) 1 1, .slice none 0 0, .slice none 0 0, .slice none 0 0]
    rw [World.size_alloc, World.size_alloc] at this
    exact ((this.alloc _).alloc _).alloc _
  have hx5 : Blk ((((((w6.alloc (.cells #[.string { data := #[97] }] 9)).alloc (.cells #[.slice (some ⟨w6.heap.size, 0, none⟩) 1 1, .int .u16 1, .int .u16 1] 50)).alloc (.cells #[.int .u16 7, .bool false, .int .i64 0, .bool false, .bool false, .bool false, .bool false, .bool false, .bool false, .int .i64 0, .slice (some ⟨w6.heap.size + 1, 0, none⟩) 1 1, .slice none 0 0, .slice none 0 0, .slice none 0 0] 28)).alloc (.cells #[.string { data := #[65] }] 9)).alloc (.cells #[.slice (some ⟨w6.heap.size + 1 + 1 + 1, 0, none⟩) 1 1, .int .u16 1, .int .u16 1] 50)).alloc (.cells #[.int .u16 7, .bool true, .int .i64 0, .bool false, .bool false, .bool false, .bool false, .bool false, .bool false, .int .i64 0, .slice (some ⟨w6.heap.size + 1 + 1 + 1 + 1, 0, none⟩) 1 1, .slice none 0 0, .slice none 0 0, .slice none 0 0] 28)) (w6.heap.size + 1 + 1 + 1) 9 (0, 0) [.string (mk [65])] := by
    have := Blk.new (((w6.alloc (.cells #[.string { data := #[97] }] 9)).alloc (.cells #[.slice (some ⟨w6.heap.size, 0, none⟩) 1 1, .int .u16 1, .int .u16 1] 50)).alloc (.cells #[.int .u16 7, .bool false, .int .i64 0, .bool false, .bool false, .bool false, .bool false, .bool false, .bool false, .int .i64 0, .slice (some ⟨w6.heap.size + 1, 0, none⟩) 1 1, .slice none 0 0, .slice none 0 0, .slice none 0 0] 28)) 9 (0, 0) #[.string { data := #[65] }]
    rw [World.size_alloc, World.size_alloc, World.size_alloc] at this
    exact (this.alloc _).alloc _
  have hx6 : Blk ((((((w6.alloc (.cells #[.string { data := #[97] }] 9)).alloc (.cells #[.slice (some ⟨w6.heap.size, 0, none⟩) 1 1, .int .u16 1, .int .u16 1] 50)).alloc (.cells #[.int .u16 7, .bool false, .int .i64 0, .bool false, .bool false, .bool false, .bool false, .bool false, .bool false, .int .i64 0, .slice (some ⟨w6.heap.size + 1, 0, none⟩) 1 1, .slice none 0 0, .slice none 0 0, .slice none 0 0] 28)).alloc (.cells #[.string { data := #[65] }] 9)).alloc (.cells #[.slice (some ⟨w6.heap.size + 1 + 1 + 1, 0, none⟩) 1 1, .int .u16 1, .int .u16 1] 50)).alloc (.cells #[.int .u16 7, .bool true, .int .i64 0, .bool false, .bool false, .bool false, .bool false, .bool false, .bool false, .int .i64 0, .slice (some ⟨w6.heap.size + 1 + 1 + 1 + 1, 0, none⟩) 1 1, .slice none 0 0, .slice none 0 0, .slice none 0 0] 28)) (w6.heap.size + 1 + 1 + 1 + 1) 50 (0, 0) [.slice (some ⟨w6.heap.size + 1 + 1 + 1, 0, none⟩) 1 1, .int .u16 1, .int .u16 1] := by
    have := Blk.new ((((w6.alloc (.cells #[.string { data := #[97] }] 9)).alloc (.cells #[.slice (some ⟨w6.heap.size, 0, none⟩) 1 1, .int .u16 1, .int .u16 1] 50)).alloc (.cells #[.int .u16 7, .bool false, .int .i64 0, .bool false, .bool false, .bool false, .bool false, .bool false, .bool false, .int .i64 0, .slice (some ⟨w6.heap.size + 1, 0, none⟩) 1 1, .slice none 0 0, .slice none 0 0, .slice none 0 0] 28)).alloc (.cells #[.string { data := #[65] }] 9)) 50 (0, 0) #[.slice (some ⟨w6.heap.size + 1 + 1 + 1, 0, none⟩) 1 1, .int .u16 1, .int .u16 1]
    rw [World.size_alloc, World.size_alloc, World.size_alloc, World.size_alloc] at this
    exact this.alloc _
  have hx7 : Blk ((((((w6.alloc (.cells #[.string { data := #[97] }] 9)).alloc (.cells #[.slice (some ⟨w6.heap.size, 0, none⟩) 1 1, .int .u16 1, .int .u16 1] 50)).alloc (.cells #[.int .u16 7, .bool false, .int .i64 0, .bool false, .bool false, .bool false, .bool false, .bool false, .bool false, .int .i64 0, .slice (some ⟨w6.heap.size + 1, 0, none⟩) 1 1, .slice none 0 0, .slice none 0 0, .slice none 0 0] 28)).alloc (.cells #[.string { data := #[65] }] 9)).alloc (.cells #[.slice (some ⟨w6.heap.size + 1 + 1 + 1, 0, none⟩) 1 1, .int .u16 1, .int .u16 1] 50)).alloc (.cells #[.int .u16 7, .bool true, .int .i64 0, .bool false, .bool false, .bool false, .bool false, .bool false, .bool false, .int .i64 0, .slice (some ⟨w6.heap.size + 1 + 1 + 1 + 1, 0, none⟩) 1 1, .slice none 0 0, .slice none 0 0, .slice none 0 0] 28)) (w6.heap.size + 1 + 1 + 1 + 1 + 1) 28 (0, 0) (#[.int .u16 7, .bool true, .int .i64 0, .bool false, .bool false, .bool false, .bool false, .bool false, .bool false, .int .i64 0, .slice (some ⟨w6.heap.size + 1 + 1 + 1 + 1, 0, none⟩) 1 1, .slice none 0 0, .slice none 0 0, .slice none 0 0] : Array Value).toList := by
    have := Blk.new (((((w6.alloc (.cells #[.string { data := #[97] }] 9)).alloc (.cells #[.slice (some ⟨w6.heap.size, 0, none⟩) 1 1, .int .u16 1, .int .u16 1] 50)).alloc (.cells #[.int .u16 7, .bool false, .int .i64 0, .bool false, .bool false, .bool false, .bool false, .bool false, .bool false, .int .i64 0, .slice (some ⟨w6.heap.size + 1, 0, none⟩) 1 1, .slice none 0 0, .slice none 0 0, .slice none 0 0] 28)).alloc (.cells #[.string { data := #[65] }] 9)).alloc (.cells #[.slice (some ⟨w6.heap.size + 1 + 1 + 1, 0, none⟩) 1 1, .int .u16 1, .int .u16 1] 50)) 28 (0, 0) #[.int .u16 7, .bool true, .int .i64 0, .bool false, .bool false, .bool false, .bool false, .bool false, .bool false, .int .i64 0, .slice (some ⟨w6.heap.size + 1 + 1 + 1 + 1, 0, none⟩) 1 1, .slice none 0 0, .slice none 0 0, .slice none 0 0]
    rw [World.size_alloc, World.size_alloc, World.size_alloc, World.size_alloc, World.size_alloc] at this
    exact this
  have hxx := Lib.hid (And.intro hx1 (And.intro hx4 (And.intro hx7 (And.intro hx2 (And.intro hx3 (And.intro hx5 hx6))))))
  clear hx1 hx2 hx3 hx4 hx5 hx6 hx7
  go_wp2_with fail
  generalize ((((((w6.alloc (.cells #[.string { data := #[97] }] 9)).alloc (.cells #[.slice (some ⟨w6.heap.size, 0, none⟩) 1 1, .int .u16 1, .int .u16 1] 50)).alloc (.cells #[.int .u16 7, .bool false, .int .i64 0, .bool false, .bool false, .bool false, .bool false, .bool false, .bool false, .int .i64 0, .slice (some ⟨w6.heap.size + 1, 0, none⟩) 1 1, .slice none 0 0, .slice none 0 0, .slice none 0 0] 28)).alloc (.cells #[.string { data := #[65] }] 9)).alloc (.cells #[.slice (some ⟨w6.heap.size + 1 + 1 + 1, 0, none⟩) 1 1, .int .u16 1, .int .u16 1] 50)).alloc (.cells #[.int .u16 7, .bool true, .int .i64 0, .bool false, .bool false, .bool false, .bool false, .bool false, .bool false, .int .i64 0, .slice (some ⟨w6.heap.size + 1 + 1 + 1 + 1, 0, none⟩) 1 1, .slice none 0 0, .slice none 0 0, .slice none 0 0] 28)) = WX at *
  obtain ⟨hbX, hQm, hAm, hx2, hx3, hx5, hx6⟩ := hxx.out
  have hQ := qs_one hx2 hx3 (by decide)
  have hA := qs_one hx5 hx6 (by decide)
  refine (answers_any 7 7 0 0 0 0 (fun j => j == 6) (fun _ => false) hA hQ (.slice none 0 0) (.slice none 0 0) (.slice none 0 0) (.slice none 0 0) (.slice none 0 0) (.slice none 0 0)).mono ?_
  rintro e w7 ⟨rfl, hb9⟩
  have ea : ansB ((7 : Nat) : Int) ((7 : Nat) : Int) 0 0 (fun j => j == 6) (fun _ => false) [([[65]], 1, 1)] [([[97]], 1, 1)] = true := by kernel_rfl
  rw [ea]
  have kp : ∀ (j : Nat) (t : TypeId) (C : List Value), Blk WX j t (0, 0) C → j ≠ w6.heap.size + 1 + 1 + 1 + 1 + 1 → Blk (w7.setCell ⟨w6.heap.size + 1 + 1 + 1 + 1 + 1, 0, none⟩ (.int .u16 8)) j t (0, 0) C := fun j t C h hne => (Below.heap_setCell _ _ _ _ hne).trans (h.below hb9 h.lt)
  have k2 := kp _ _ _ hx2 (by omega)
  have k3 := kp _ _ _ hx3 (by omega)
  have k5 := kp _ _ _ hx5 (by omega)
  have k6 := kp _ _ _ hx6 (by omega)
  have hQm7 := hQm.below hb9 hQm.lt
  have hAm7 := hAm.below hb9 hAm.lt
  have hb10 := hb8'.out.trans ((hbX.trans (hb9.mono hbX.size)).mono hb8'.out.size)
  have hBM7 := hBM.out.below hb10 hBM.out.lt
  have hBN7 := hBN.out.below hb10 hBN.out.lt
  have hb11 := hbW.out.trans (hb10.mono hbW.out.size)
  have cA : w7.cell? ⟨w6.heap.size + 1 + 1 + 1 + 1 + 1, 0, none⟩ = some (.int .u16 7) := (hAm7.cell 0).trans rfl
  have zA : w7.frozen? ⟨w6.heap.size + 1 + 1 + 1 + 1 + 1, 0, none⟩ = false := by rw [hAm7.frozen]; simp
  have hsz6 : WB.heap.size ≤ w6.heap.size := hb8'.out.size
  have hszW : W.heap.size ≤ WB.heap.size := hbW.out.size
  have hlM := hBM.out.lt
  have hlN := hBN.out.lt
  have g0 : Below W.heap.size W (w7.setCell ⟨w6.heap.size + 1 + 1 + 1 + 1 + 1, 0, none⟩ (.int .u16 8)) := hb11.setCell (by simp only []; omega) _
  have g1 : Below w6.heap.size w7 (w7.setCell ⟨w6.heap.size + 1 + 1 + 1 + 1 + 1, 0, none⟩ (.int .u16 8)) := (Below.refl _ _).setCell (by simp only []; omega) _
  have g2 : Blk (w7.setCell ⟨w6.heap.size + 1 + 1 + 1 + 1 + 1, 0, none⟩ (.int .u16 8)) w2.heap.size 28 (0, 0) (#[.int .u16 258, .bool true, .int .i64 0, .bool true, .bool false, .bool true, .bool false, .bool false, .bool false, .int .i64 3, .slice none 0 0, .slice none 0 0, .slice none 0 0, .slice none 0 0] : Array Value).toList := hBM7.below g1 (by omega)
  have g3 : Blk (w7.setCell ⟨w6.heap.size + 1 + 1 + 1 + 1 + 1, 0, none⟩ (.int .u16 8)) (w2.heap.size + 1) 29 (0, 0) (#[.int .i64 1, .int .i64 0, .int .i64 1, .int .i64 0] : Array Value).toList := hBN7.below g1 (by omega)
  have g4 : Blk (w7.setCell ⟨w6.heap.size + 1 + 1 + 1 + 1 + 1, 0, none⟩ (.int .u16 8)) (w6.heap.size + 1 + 1) 28 (0, 0) (#[.int .u16 7, .bool false, .int .i64 0, .bool false, .bool false, .bool false, .bool false, .bool false, .bool false, .int .i64 0, .slice (some ⟨w6.heap.size + 1, 0, none⟩) 1 1, .slice none 0 0, .slice none 0 0, .slice none 0 0] : Array Value).toList := (Below.heap_setCell _ _ _ _ (by simp only [ne_eq]; omega)).trans hQm7
  have g5 : Blk (w7.setCell ⟨w6.heap.size + 1 + 1 + 1 + 1 + 1, 0, none⟩ (.int .u16 8)) (w6.heap.size + 1 + 1 + 1 + 1 + 1) 28 (0, 0) (#[.int .u16 8, .bool true, .int .i64 0, .bool false, .bool false, .bool false, .bool false, .bool false, .bool false, .int .i64 0, .slice (some ⟨w6.heap.size + 1 + 1 + 1 + 1, 0, none⟩) 1 1, .slice none 0 0, .slice none 0 0, .slice none 0 0] : Array Value).toList := hAm7.set 0 (.int .u16 8)
  have gg := Lib.hid (And.intro g0 (And.intro g2 (And.intro g3 (And.intro g4 (And.intro g5 (And.intro k2 (And.intro k3 (And.intro k5 k6))))))))
  clear g0 g1 g2 g3 g4 g5 hBM hBN hbW hb8' hb9 hb10 hb11 hbX hQm hAm hQm7 hAm7 hBM7 hBN7 ea hxx hQ hA hx2 hx3 hx5 hx6 k2 k3 k5 k6 kp
  go_wp2_with fail
  generalize (w7.setCell ⟨w6.heap.size + 1 + 1 + 1 + 1 + 1, 0, none⟩ (.int .u16 8)) = w8 at *
  obtain ⟨g0, g2, g3, g4, g5, k2, k3, k5, k6⟩ := gg.out
  refine awake_any.mono ?_
  rintro e w9 ⟨rfl, hb12⟩
  have hb13 := Lib.hid (g0.trans (hb12.mono g0.size))
  have m2 := g2.below hb12 g2.lt
  have m3 := g3.below hb12 g3.lt
  have m4 := g4.below hb12 g4.lt
  have m5 := g5.below hb12 g5.lt
  have hQ9 := Lib.hid (qs_one (k2.below hb12 k2.lt) (k3.below hb12 k3.lt) (by decide))
  have hA9 := Lib.hid (qs_one (k5.below hb12 k5.lt) (k6.below hb12 k6.lt) (by decide))
  have fm0 : w9.cell? ⟨w2.heap.size, 0, none⟩ = some (.int .u16 258) := (m2.cell 0).trans rfl
  have fm1 : w9.cell? ⟨w2.heap.size, 1, none⟩ = some (.bool true) := (m2.cell 1).trans rfl
  have fm2 : w9.cell? ⟨w2.heap.size, 2, none⟩ = some (.int .i64 0) := (m2.cell 2).trans rfl
  have fm3 : w9.cell? ⟨w2.heap.size, 3, none⟩ = some (.bool true) := (m2.cell 3).trans rfl
  have fm4 : w9.cell? ⟨w2.heap.size, 4, none⟩ = some (.bool false) := (m2.cell 4).trans rfl
  have fm5 : w9.cell? ⟨w2.heap.size, 5, none⟩ = some (.bool true) := (m2.cell 5).trans rfl
  have fm6 : w9.cell? ⟨w2.heap.size, 6, none⟩ = some (.bool false) := (m2.cell 6).trans rfl
  have fm7 : w9.cell? ⟨w2.heap.size, 7, none⟩ = some (.bool false) := (m2.cell 7).trans rfl
  have fm8 : w9.cell? ⟨w2.heap.size, 8, none⟩ = some (.bool false) := (m2.cell 8).trans rfl
  have fm9 : w9.cell? ⟨w2.heap.size, 9, none⟩ = some (.int .i64 3) := (m2.cell 9).trans rfl
  have fm10 : w9.cell? ⟨w2.heap.size, 10, none⟩ = some (.slice none 0 0) := (m2.cell 10).trans rfl
  have fm11 : w9.cell? ⟨w2.heap.size, 11, none⟩ = some (.slice none 0 0) := (m2.cell 11).trans rfl
  have fm12 : w9.cell? ⟨w2.heap.size, 12, none⟩ = some (.slice none 0 0) := (m2.cell 12).trans rfl
  have fm13 : w9.cell? ⟨w2.heap.size, 13, none⟩ = some (.slice none 0 0) := (m2.cell 13).trans rfl
  have fn0 : w9.cell? ⟨w2.heap.size + 1, 0, none⟩ = some (.int .i64 1) := (m3.cell 0).trans rfl
  have fn1 : w9.cell? ⟨w2.heap.size + 1, 1, none⟩ = some (.int .i64 0) := (m3.cell 1).trans rfl
  have fn2 : w9.cell? ⟨w2.heap.size + 1, 2, none⟩ = some (.int .i64 1) := (m3.cell 2).trans rfl
  have fn3 : w9.cell? ⟨w2.heap.size + 1, 3, none⟩ = some (.int .i64 0) := (m3.cell 3).trans rfl
  have fq0 : w9.cell? ⟨w6.heap.size + 1 + 1, 0, none⟩ = some (.int .u16 7) := (m4.cell 0).trans rfl
  have fq1 : w9.cell? ⟨w6.heap.size + 1 + 1, 1, none⟩ = some (.bool false) := (m4.cell 1).trans rfl
  have fq2 : w9.cell? ⟨w6.heap.size + 1 + 1, 2, none⟩ = some (.int .i64 0) := (m4.cell 2).trans rfl
  have fq3 : w9.cell? ⟨w6.heap.size + 1 + 1, 3, none⟩ = some (.bool false) := (m4.cell 3).trans rfl
  have fq4 : w9.cell? ⟨w6.heap.size + 1 + 1, 4, none⟩ = some (.bool false) := (m4.cell 4).trans rfl
  have fq5 : w9.cell? ⟨w6.heap.size + 1 + 1, 5, none⟩ = some (.bool false) := (m4.cell 5).trans rfl
  have fq6 : w9.cell? ⟨w6.heap.size + 1 + 1, 6, none⟩ = some (.bool false) := (m4.cell 6).trans rfl
  have fq7 : w9.cell? ⟨w6.heap.size + 1 + 1, 7, none⟩ = some (.bool false) := (m4.cell 7).trans rfl
  have fq8 : w9.cell? ⟨w6.heap.size + 1 + 1, 8, none⟩ = some (.bool false) := (m4.cell 8).trans rfl
  have fq9 : w9.cell? ⟨w6.heap.size + 1 + 1, 9, none⟩ = some (.int .i64 0) := (m4.cell 9).trans rfl
  have fq10 : w9.cell? ⟨w6.heap.size + 1 + 1, 10, none⟩ = some (.slice (some ⟨w6.heap.size + 1, 0, none⟩) 1 1) := (m4.cell 10).trans rfl
  have fq11 : w9.cell? ⟨w6.heap.size + 1 + 1, 11, none⟩ = some (.slice none 0 0) := (m4.cell 11).trans rfl
  have fq12 : w9.cell? ⟨w6.heap.size + 1 + 1, 12, none⟩ = some (.slice none 0 0) := (m4.cell 12).trans rfl
  have fq13 : w9.cell? ⟨w6.heap.size + 1 + 1, 13, none⟩ = some (.slice none 0 0) := (m4.cell 13).trans rfl
  have fa0 : w9.cell? ⟨w6.heap.size + 1 + 1 + 1 + 1 + 1, 0, none⟩ = some (.int .u16 8) := (m5.cell 0).trans rfl
  have fa1 : w9.cell? ⟨w6.heap.size + 1 + 1 + 1 + 1 + 1, 1, none⟩ = some (.bool true) := (m5.cell 1).trans rfl
  have fa2 : w9.cell? ⟨w6.heap.size + 1 + 1 + 1 + 1 + 1, 2, none⟩ = some (.int .i64 0) := (m5.cell 2).trans rfl
  have fa3 : w9.cell? ⟨w6.heap.size + 1 + 1 + 1 + 1 + 1, 3, none⟩ = some (.bool false) := (m5.cell 3).trans rfl
  have fa4 : w9.cell? ⟨w6.heap.size + 1 + 1 + 1 + 1 + 1, 4, none⟩ = some (.bool false) := (m5.cell 4).trans rfl
  have fa5 : w9.cell? ⟨w6.heap.size + 1 + 1 + 1 + 1 + 1, 5, none⟩ = some (.bool false) := (m5.cell 5).trans rfl
  have fa6 : w9.cell? ⟨w6.heap.size + 1 + 1 + 1 + 1 + 1, 6, none⟩ = some (.bool false) := (m5.cell 6).trans rfl
  have fa7 : w9.cell? ⟨w6.heap.size + 1 + 1 + 1 + 1 + 1, 7, none⟩ = some (.bool false) := (m5.cell 7).trans rfl
  have fa8 : w9.cell? ⟨w6.heap.size + 1 + 1 + 1 + 1 + 1, 8, none⟩ = some (.bool false) := (m5.cell 8).trans rfl
  have fa9 : w9.cell? ⟨w6.heap.size + 1 + 1 + 1 + 1 + 1, 9, none⟩ = some (.int .i64 0) := (m5.cell 9).trans rfl
  have fa10 : w9.cell? ⟨w6.heap.size + 1 + 1 + 1 + 1 + 1, 10, none⟩ = some (.slice (some ⟨w6.heap.size + 1 + 1 + 1 + 1, 0, none⟩) 1 1) := (m5.cell 10).trans rfl
  have fa11 : w9.cell? ⟨w6.heap.size + 1 + 1 + 1 + 1 + 1, 11, none⟩ = some (.slice none 0 0) := (m5.cell 11).trans rfl
  have fa12 : w9.cell? ⟨w6.heap.size + 1 + 1 + 1 + 1 + 1, 12, none⟩ = some (.slice none 0 0) := (m5.cell 12).trans rfl
  have fa13 : w9.cell? ⟨w6.heap.size + 1 + 1 + 1 + 1 + 1, 13, none⟩ = some (.slice none 0 0) := (m5.cell 13).trans rfl
  have heq := fun u : World => eq_arr (u := u) 1 0 1 0
  clear m2 m3 m4 m5 g0 g2 g3 g4 g5 k2 k3 k5 k6 gg hb12 cA zA
  have eb : ansB ((8 : Nat) : Int) ((7 : Nat) : Int) 0 0 (fun j => j == 6) (fun _ => false) [([[65]], 1, 1)] [([[97]], 1, 1)] = false := by kernel_rfl
  go_wp2_with (go_at_call 20; refine (answers_any 8 7 0 0 0 0 (fun j => j == 6) (fun _ => false) hA9.out hQ9.out (.slice none 0 0) (.slice none 0 0) (.slice none 0 0) (.slice none 0 0) (.slice none 0 0) (.slice none 0 0)).mono ?_; rintro e wT ⟨rfl, hbT⟩; rw [eb])
  go_ret
  exact ⟨rfl, hb13.out.trans (hbT.mono hb13.out.size)⟩
theorem headerKnown_law (W : World) : Calls Try.prog 7 #[] W fun e w' => e = .returned (.bool true) ∧ Below W.heap.size W w' := headerKnown_walk W
end Go.Proofs.Ytbpkhnnfdjihdaa
