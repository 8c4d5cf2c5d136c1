/- The law SqueezeKnown, walked. -/
import Derived.Test.YtndpebhhgicooaaWrF
import Derived.Test.YtndpebhhgicooaaSqueezeReadsW
import Derived.Test.YtndpebhhgicooaaSqueezeBackW
namespace Go.Proofs.Ytndpebhhgicooaa
open Go Go.RowKit Go.Maps
def kNs : List Nm := [[[97], [98]], [[99], [98]], [[66]], [[97], [98]]]
/-- the bytes and the tails when so many names stand there -/
def kSt : Nat → List UInt8 × (List UInt8 → Option Int)
  | 0 => ([], fun _ => none)
  | k + 1 => ((kSt k).1 ++ (wrN (kSt k).1.length (kSt k).2 true [] (fun _ => none) (kNs.getD k [])).1, over (wrN (kSt k).1.length (kSt k).2 true [] (fun _ => none) (kNs.getD k [])).2 (kSt k).2)
theorem kInv : ∀ k, k ≤ 4 → Inv (kSt k).1 (kSt k).2
  | 0, _ => Inv.nil
  | k + 1, hk => by
    have hc : checkL (kNs.getD k []) = 0 := by
      match k, hk with
      | 0, _ => decide +kernel
      | 1, _ => decide +kernel
      | 2, _ => decide +kernel
      | 3, _ => decide +kernel
    exact (wrN_name (kInv k (by omega)) true hc rfl).2.2.2.2
theorem kB4 : (kSt 4).1 = [1, 97, 1, 98, 0, 1, 99, 192, 2, 1, 66, 0, 192, 0] := by decide +kernel
theorem kB5 : (wrN 14 (kSt 4).2 false [] (fun _ => none) [[97], [98]]).1 = [1, 97, 1, 98, 0] := by decide +kernel
theorem kLen : ∀ k, k < 4 → (kSt k).1.length ≤ 100 ∧ sizeL (kNs.getD k []) ≤ 255 ∧ checkL (kNs.getD k []) = 0 := by
  intro k hk
  match k, hk with
  | 0, _ => decide +kernel
  | 1, _ => decide +kernel
  | 2, _ => decide +kernel
  | 3, _ => decide +kernel
def kQ : List (List UInt8) := [[192, 0], [1, 97, 192, 0], [64], [], [1], [192]]
theorem kBad : ∀ k, k < 6 → rdF (kQ.getD k []) true 0 0 (-1) [] = none := by
  intro k hk
  match k, hk with
  | 0, _ => exact rdG_eq 5 _ _ _ _ _ (by decide +kernel)
  | 1, _ => exact rdG_eq 5 _ _ _ _ _ (by decide +kernel)
  | 2, _ => exact rdG_eq 5 _ _ _ _ _ (by decide +kernel)
  | 3, _ => exact rdG_eq 5 _ _ _ _ _ (by decide +kernel)
  | 4, _ => exact rdG_eq 5 _ _ _ _ _ (by decide +kernel)
  | 5, _ => exact rdG_eq 5 _ _ _ _ _ (by decide +kernel)
theorem kQlen : ∀ k, k < 6 → (kQ.getD k []).length ≤ 4 := by decide
theorem kNo : rdF [1, 97, 1, 98, 0, 1, 99, 192, 2, 1, 66, 0, 192, 0, 1, 97, 1, 98, 0] false 5 5 (-1) [] = none := rdG_eq 9 _ _ _ _ _ (by decide +kernel)
theorem kRoot : rdF [0] true 0 0 (-1) [] = some ([], 1) := rdG_eq 2 _ _ _ _ _ (by decide +kernel)
/-- the literals of the names -/
def Lt (w : World) (b0 b1 b2 b3 b4 : Nat) : Prop := Blk w b0 9 (0, 0) [sv [97], sv [98]] ∧ Blk w b1 9 (0, 0) [sv [99], sv [98]] ∧ Blk w b2 9 (0, 0) [sv [66]] ∧ Blk w b3 9 (0, 0) [sv [97], sv [98]] ∧
  Blk w b4 25 (0, 0) [.slice (some ⟨b0, 0, none⟩) 2 2, .slice (some ⟨b1, 0, none⟩) 2 2, .slice (some ⟨b2, 0, none⟩) 1 1, .slice (some ⟨b3, 0, none⟩) 2 2]
theorem Wr.notS {w : World} {lo g : Nat} {B : List UInt8} {nm : Nat} {f : List UInt8 → Option Int} {a : Option Addr} {c mb : Nat} (h : Wr w lo g B nm f a c mb) {b : Nat} {e : TypeId} {fz : Nat × Nat} {C : List Value} (hb : Blk w b e fz C) (h5 : e ≠ 5) (h60 : e ≠ 60) :
    ¬ (b = g ∨ b = mb ∨ (Value.slice a B.length c).ownBlock = some b) := by
  rintro (rfl | rfl | hk')
  · exact h60 (blk_type hb h.blk)
  · exact (h.map.notBlk hb) rfl
  · obtain ⟨C', hC'⟩ := own_blk h.own b hk'
    exact h5 (blk_type hb hC')
theorem Lt.tch {w w' : World} {b0 b1 b2 b3 b4 : Nat} (h : Lt w b0 b1 b2 b3 b4) {lo g : Nat} {B : List UInt8} {nm : Nat} {f : List UInt8 → Option Int} {a : Option Addr} {c mb : Nat} (hW : Wr w lo g B nm f a c mb) (hT : Tch (fun k => k = g ∨ k = mb ∨ (Value.slice a B.length c).ownBlock = some k) w w') : Lt w' b0 b1 b2 b3 b4 := by
  obtain ⟨h0, h1, h2, h3, h4⟩ := h
  exact ⟨hT.blk h0 (hW.notS h0 (by decide) (by decide)), hT.blk h1 (hW.notS h1 (by decide) (by decide)), hT.blk h2 (hW.notS h2 (by decide) (by decide)), hT.blk h3 (hW.notS h3 (by decide) (by decide)), hT.blk h4 (hW.notS h4 (by decide) (by decide))⟩
theorem Lt.at_ {w : World} {b0 b1 b2 b3 b4 : Nat} (h : Lt w b0 b1 b2 b3 b4) (k : Nat) (hk : k < 4) : ∃ an nn, w.cell? ⟨b4, k, none⟩ = some (.slice an nn nn) ∧ Rd strE w an nn nn (kNs.getD k []) := by
  obtain ⟨h0, h1, h2, h3, h4⟩ := h
  match k, hk with
  | 0, _ => exact ⟨_, _, (h4.cell 0).trans rfl, rd_blk (E := strE) (X := [[97], [98]]) h0 2 rfl (by decide)⟩
  | 1, _ => exact ⟨_, _, (h4.cell 1).trans rfl, rd_blk (E := strE) (X := [[99], [98]]) h1 2 rfl (by decide)⟩
  | 2, _ => exact ⟨_, _, (h4.cell 2).trans rfl, rd_blk (E := strE) (X := [[66]]) h2 1 rfl (by decide)⟩
  | 3, _ => exact ⟨_, _, (h4.cell 3).trans rfl, rd_blk (E := strE) (X := [[97], [98]]) h3 2 rfl (by decide)⟩
theorem some_slice (n : Nat) (hn : n ≤ 70368744177664) : ∃ (C : Array Value) (X : List UInt8), X.length = n ∧ (∀ u : World, (Instr.makeSlice 22 (.int .i64 (n : Int)) (.int .i64 (n : Int))).run Try.prog u = .ok (.slice (some ⟨u.heap.size, 0, none⟩) n n) (u.alloc (.cells C 5))) ∧
    ∀ u : World, Rd byteE (u.alloc (.cells C 5)) (some ⟨u.heap.size, 0, none⟩) n n X := by
  obtain ⟨i0, hi, hz0, hz1, hz2⟩ := info_parts Try.info5
  refine ⟨madeCells #[.int .u8 0] n, List.replicate n 0, by simp, fun u => ?_, fun u => ?_⟩
  · have h := run_make (P := Try.prog) u 22 5 i0 (.int .u8 0) Try.underlying22 hi hz0 .i64 .i64 (n : Int) (n : Int) (by omega) (Int.le_refl _) (by rw [hz2]; omega) (by omega)
    rw [Int.toNat_natCast] at h
    simpa [hz1, Value.cells] using h
  · refine rd_blk (E := byteE) (fz := (0, 0)) ?_ n (by simp) (by simp [maxLen]; omega)
    have hB := Blk.new u 5 (0, 0) (madeCells #[.int .u8 0] n)
    rw [madeCells_one] at hB
    have e : rowOf byteE (List.replicate n 0) = List.replicate n (.int .u8 0) := by rw [rowOf_byte]; simp [u8s, u8]
    rw [e]
    exact hB
theorem lit_bytes (w : World) (l : List UInt8) (C : Array Value) (n : Nat) (hC : C.toList = rowOf byteE l) (hn : n = l.length) (hm : n ≤ maxLen) : Rd byteE (w.alloc (.cells C 5)) (some ⟨w.heap.size, 0, none⟩) n n l := by
  refine rd_blk (E := byteE) (fz := (0, 0)) ?_ n hn hm
  have := Blk.new w 5 (0, 0) C
  rw [hC] at this
  exact this
set_option maxHeartbeats 16000000 in
set_option maxRecDepth 100000 in
theorem squeezeKnown_walk (W : World) : Calls Try.prog 8 #[] W fun e w' => e = .returned (.bool true) ∧ Below W.heap.size W w' := by
  obtain ⟨C65, X65, hX65, hmk0, hr65⟩ := some_slice 65535 (by omega)
  have hmk := Lib.hid hmk0
  have hr65' := Lib.hid hr65
  have hX65' := Lib.hid hX65
  clear hmk0 hr65 hX65
  go_enter Try.func8, Try.ntmps8
  go_wp2_with fail
  refine (wr_new (w := W)).mono ?_
  rintro e w1 ⟨⟨g, mb, rfl, hW1⟩, hb1⟩
  obtain ⟨Y0, hY0⟩ : ∃ Y, w1.alloc (.cells #[.string ⟨#[97]⟩, .string ⟨#[98]⟩] 9) = Y := ⟨_, rfl⟩
  obtain ⟨Y1, hY1⟩ : ∃ Y, Y0.alloc (.cells #[.string ⟨#[99]⟩, .string ⟨#[98]⟩] 9) = Y := ⟨_, rfl⟩
  obtain ⟨Y2, hY2⟩ : ∃ Y, Y1.alloc (.cells #[.string ⟨#[66]⟩] 9) = Y := ⟨_, rfl⟩
  obtain ⟨Y3, hY3⟩ : ∃ Y, Y2.alloc (.cells #[.string ⟨#[97]⟩, .string ⟨#[98]⟩] 9) = Y := ⟨_, rfl⟩
  obtain ⟨Y4, hY4⟩ : ∃ Y, Y3.alloc (.cells #[.slice (some ⟨w1.heap.size, 0, none⟩) 2 2, .slice (some ⟨Y0.heap.size, 0, none⟩) 2 2, .slice (some ⟨Y1.heap.size, 0, none⟩) 1 1, .slice (some ⟨Y2.heap.size, 0, none⟩) 2 2] 25) = Y := ⟨_, rfl⟩
  have k0 : Below w1.heap.size w1 Y0 := by rw [← hY0]; exact (Below.refl _ _).alloc (Nat.le_refl _) _
  have k1 : Below Y0.heap.size Y0 Y1 := by rw [← hY1]; exact (Below.refl _ _).alloc (Nat.le_refl _) _
  have k2 : Below Y1.heap.size Y1 Y2 := by rw [← hY2]; exact (Below.refl _ _).alloc (Nat.le_refl _) _
  have k3 : Below Y2.heap.size Y2 Y3 := by rw [← hY3]; exact (Below.refl _ _).alloc (Nat.le_refl _) _
  have k4 : Below Y3.heap.size Y3 Y4 := by rw [← hY4]; exact (Below.refl _ _).alloc (Nat.le_refl _) _
  have B0 : Blk Y0 w1.heap.size 9 (0, 0) [sv [97], sv [98]] := by rw [← hY0]; exact Blk.new w1 9 (0, 0) #[.string ⟨#[97]⟩, .string ⟨#[98]⟩]
  have B1 : Blk Y1 Y0.heap.size 9 (0, 0) [sv [99], sv [98]] := by rw [← hY1]; exact Blk.new Y0 9 (0, 0) #[.string ⟨#[99]⟩, .string ⟨#[98]⟩]
  have B2 : Blk Y2 Y1.heap.size 9 (0, 0) [sv [66]] := by rw [← hY2]; exact Blk.new Y1 9 (0, 0) #[.string ⟨#[66]⟩]
  have B3 : Blk Y3 Y2.heap.size 9 (0, 0) [sv [97], sv [98]] := by rw [← hY3]; exact Blk.new Y2 9 (0, 0) #[.string ⟨#[97]⟩, .string ⟨#[98]⟩]
  have B4 : Blk Y4 Y3.heap.size 25 (0, 0) [.slice (some ⟨w1.heap.size, 0, none⟩) 2 2, .slice (some ⟨Y0.heap.size, 0, none⟩) 2 2, .slice (some ⟨Y1.heap.size, 0, none⟩) 1 1, .slice (some ⟨Y2.heap.size, 0, none⟩) 2 2] := by rw [← hY4]; exact Blk.new Y3 25 (0, 0) #[.slice (some ⟨w1.heap.size, 0, none⟩) 2 2, .slice (some ⟨Y0.heap.size, 0, none⟩) 2 2, .slice (some ⟨Y1.heap.size, 0, none⟩) 1 1, .slice (some ⟨Y2.heap.size, 0, none⟩) 2 2]
  have k34 := k3.trans (k4.mono k3.size)
  have k24 := k2.trans (k34.mono k2.size)
  have k14 := k1.trans (k24.mono k1.size)
  have k04 := k0.trans (k14.mono k0.size)
  have hL : Hid (Lt Y4 w1.heap.size Y0.heap.size Y1.heap.size Y2.heap.size Y3.heap.size) := Lib.hid ⟨B0.below k14 B0.lt, B1.below k24 B1.lt, B2.below k34 B2.lt, B3.below k4 B3.lt, B4⟩
  have hW4 := Lib.hid (hW1.ext k04)
  have hb4 := Lib.hid (hb1.trans (k04.mono hb1.size))
  clear k0 k1 k2 k3 k4 k34 k24 k14 k04 B0 B1 B2 B3 B4 hW1 hb1
  go_wp2_with fail
  clear hY0 hY1 hY2 hY3 hY4
  generalize w1.heap.size = z0 at *
  generalize Y0.heap.size = z1 at *
  generalize Y1.heap.size = z2 at *
  generalize Y2.heap.size = z3 at *
  generalize Y3.heap.size = z4 at *
  go_loopw [35] (fun i wr => ∃ (k nm : Nat) (a : Option Addr) (c : Nat), k ≤ 4 ∧ i = .int .i64 k ∧ Hid (Wr wr W.heap.size g (kSt k).1 nm (kSt k).2 a c mb) ∧ nm ≤ 100 * k ∧ Hid (Lt wr z0 z1 z2 z3 z4) ∧ Hid (Below W.heap.size W wr)) (fun i _ => 4 - (intOf i).toNat)
  case atStart => exact ⟨0, 0, none, 0, by decide, rfl, hW4, by decide, hL, hb4⟩
  case round =>
    obtain ⟨k, nm, a, c, hk, rfl, hWr, hnm, hLt, hb⟩ := hrel
    clear hW4 hL hb4
    by_cases hk4 : k < 4
    · have hkI : (k : Int) < 4 := by omega
      obtain ⟨an, nn, hcell, hN⟩ := hLt.out.at_ k hk4
      obtain ⟨q1, q2, q3⟩ := kLen k hk4
      have hN' := Lib.hid hN
      have hI := Lib.hid (kInv k (by omega))
      have q3' := Lib.hid q3
      have hnn : nn ≤ 90 := by
        have := hN.len
        have := sizeL_ge (kNs.getD k [])
        have h9 := checkL_len q3
        have : ∀ k, k < 4 → (kNs.getD k []).length ≤ 2 := by decide
        have := this k hk4
        omega
      obtain ⟨t, fr, hw⟩ : ∃ t fr, wrN (kSt k).1.length (kSt k).2 true [] (fun _ => none) (kNs.getD k []) = (t, fr) := ⟨_, _, rfl⟩
      have hw' := Lib.hid hw
      clear hN q3 hw
      go_wp2_with fail
      refine (wr_name3 hWr.out hb.out.size hI.out hN'.out q3'.out true (by omega) (by omega) hw'.out).mono ?_
      rintro e w4 ⟨rfl, ⟨a', c', nm', hnm', hW4⟩, hT4⟩
      have hL4 := Lib.hid (hLt.out.tch hWr.out hT4)
      have hb4 := Lib.hid (hb.out.trans (hT4.below hb.out.size fun b _ hs => by
        rcases hs with rfl | rfl | hs
        · exact hWr.out.low
        · exact hWr.out.lowm
        · exact (hWr.out.own.lt b hs).1))
      have hW4' : Hid (Wr w4 W.heap.size g (kSt (k + 1)).1 nm' (kSt (k + 1)).2 a' c' mb) := Lib.hid (by
        have e1 : (kSt (k + 1)).1 = (kSt k).1 ++ t := by have := hw'.out; rw [kSt, this]
        have e2 : (kSt (k + 1)).2 = over fr (kSt k).2 := by have := hw'.out; rw [kSt, this]
        rw [e1, e2]; exact hW4)
      clear hW4 hT4 hWr hLt hb hN' hI hw'
      go_wp2_with fail
      go_roundw
      case rel => exact ⟨k + 1, nm', a', c', by omega, by go_num, hW4', by omega, hL4, hb4⟩
      case measure => simp [intOf]; omega
    · have hk' : k = 4 := by omega
      subst hk'
      have hI := kInv 4 (by decide)
      obtain ⟨f4, hf4⟩ : ∃ f, (kSt 4).2 = f := ⟨_, rfl⟩
      have hWr4 := hWr.out
      obtain ⟨fr, hw⟩ : ∃ fr, wrN 14 (kSt 4).2 false [] (fun _ => none) [[97], [98]] = ([1, 97, 1, 98, 0], fr) := ⟨_, Prod.ext kB5 rfl⟩
      rw [kB4] at hWr4 hI
      rw [hf4] at hWr4 hI hw
      have hW5 := Lib.hid (hWr4.ext ((Below.refl _ _).alloc (Nat.le_refl _) (.cells #[.string (mk [97]), .string (mk [98])] 9)))
      have hb5 := Lib.hid (hb.out.alloc hb.out.size (.cells #[.string (mk [97]), .string (mk [98])] 9))
      have hI' := Lib.hid hI
      have hw' := Lib.hid hw
      clear hWr4 hI hw hf4 hWr hLt hb
      go_wp2_with fail
      refine (wr_name3 hW5.out hb5.out.size hI'.out (lit_nm _ [[97], [98]] _ 2 rfl rfl (by decide)) (by decide +kernel) false (by decide +kernel) (by omega) hw'.out).mono ?_
      rintro e w6 ⟨rfl, ⟨a6, c6, nm6, hnm6, hW6⟩, hT6⟩
      have hb6 := Lib.hid (hb5.out.trans (hT6.below hb5.out.size fun b _ hs => by
        rcases hs with rfl | rfl | hs
        · exact hW5.out.low
        · exact hW5.out.lowm
        · exact (hW5.out.own.lt b hs).1))
      have hW6' := Lib.hid hW6
      clear hW6 hT6 hW5 hb5
      go_wp2_with fail
      refine (wr_all hW6'.out (by decide)).mono ?_
      rintro e w7 ⟨⟨v7, rfl, ho7⟩, hb7⟩
      obtain ⟨a7, c7, rfl, hr7⟩ := ho7.rd
      have hstr : (convert 22 9 (.slice a7 19 c7)).run Try.prog w7 = .ok (.string (mk [1, 97, 1, 98, 0, 1, 99, 192, 2, 1, 66, 0, 192, 0, 1, 97, 1, 98, 0])) w7 := rd_toStr (P := Try.prog) hr7 22 9 Try.underlying22 Try.underlying5 Try.underlying9
      have hW7 := Lib.hid (hW6'.out.ext hb7)
      have hb7' := Lib.hid (hb6.out.trans (hb7.mono hb6.out.size))
      clear ho7 hb7 hr7 hW6' hb6
      go_wp2_with fail
      refine (wr_all hW7.out (by decide)).mono ?_
      rintro e w8 ⟨⟨v8, rfl, ho8⟩, hb8⟩
      obtain ⟨a8, c8, rfl, hr8⟩ := ho8.rd
      have hr8' := Lib.hid hr8
      have hb8' := Lib.hid (hb7'.out.trans (hb8.mono hb7'.out.size))
      clear ho8 hb8 hr8 hb7' hstr hW7
      go_wp2_with fail
      refine (prog_rd hr8'.out (by decide) 5 (by decide) false).mono ?_
      rintro e w9 ⟨ho9, hb9⟩
      have e9 : rdF ([1, 97, 1, 98, 0, 1, 99, 192, 2, 1, 66, 0, 192, 0] ++ [1, 97, 1, 98, 0]) false 5 5 (-1) [] = none := kNo
      rw [e9] at ho9
      have ho9' : e = .returned (.tuple #[.slice none 0 0, .int .i64 0, .int .i64 8]) := ho9
      subst ho9'
      have hb9' := hb8'.out.trans (hb9.mono hb8'.out.size)
      obtain ⟨Z, hZ⟩ : ∃ Y, w9.alloc (.cells #[.string ⟨#[192, 0]⟩, .string ⟨#[1, 97, 192, 0]⟩, .string ⟨#[64]⟩, .string ⟨#[]⟩, .string ⟨#[1]⟩, .string ⟨#[192]⟩] 9) = Y := ⟨_, rfl⟩
      have hbZ : Hid (Below W.heap.size W Z) := Lib.hid (by rw [← hZ]; exact hb9'.alloc hb9'.size _)
      have hBZ : Blk Z w9.heap.size 9 (0, 0) (kQ.map sv) := by rw [← hZ]; exact Blk.new w9 9 (0, 0) #[.string ⟨#[192, 0]⟩, .string ⟨#[1, 97, 192, 0]⟩, .string ⟨#[64]⟩, .string ⟨#[]⟩, .string ⟨#[1]⟩, .string ⟨#[192]⟩]
      have hBZ' := Lib.hid hBZ
      clear ho9 hb9 hb9' hr8' hb8' hBZ e9
      go_wp2_with fail
      clear hZ
      generalize w9.heap.size = zq at *
      have hq0 : Below Z.heap.size Z Z := Below.refl _ _
      have hq0' := Lib.hid hq0
      clear hq0
      go_loopw [64] (fun i wr => ∃ k : Nat, k ≤ 6 ∧ i = .int .i64 k ∧ Hid (Below Z.heap.size Z wr)) (fun i _ => 6 - (intOf i).toNat)
      case atStart => exact ⟨0, by decide, rfl, hq0'⟩
      case round =>
        obtain ⟨k, hk, rfl, hb⟩ := hrel
        clear hq0'
        by_cases hk6 : k < 6
        · have hkI : (k : Int) < 6 := by omega
          have hB := hBZ'.out.below hb.out hBZ'.out.lt
          have hcell : wr.cell? ⟨zq, k, none⟩ = some (.string (mk (kQ.getD k []))) := by
            rw [hB.cell]
            have e : kQ[k]? = some (kQ.getD k []) := by
              rw [List.getD_eq_getElem?_getD, List.getElem?_eq_getElem (by exact hk6)]; rfl
            rw [List.getElem?_map, e]; rfl
          have hbad := Lib.hid (kBad k hk6)
          have hql := kQlen k hk6
          generalize kQ.getD k [] = l at *
          obtain ⟨cc, w2, hrun, hr, hb2⟩ := conv_bytes wr l (by simp [maxLen]; omega)
          have hr' := Lib.hid hr
          have hb2' := Lib.hid (hb.out.trans (hb2.mono hb.out.size))
          clear hr hb2 hB
          go_wp2_with fail
          refine (prog_rd hr'.out (by omega) 0 (Nat.zero_le _) true).mono ?_
          rintro e w3 ⟨ho3, hb3⟩
          rw [hbad.out] at ho3
          have ho3' : e = .returned (.tuple #[.slice none 0 0, .int .i64 0, .int .i64 8]) := ho3
          subst ho3'
          have hb3' := Lib.hid (hb2'.out.trans (hb3.mono hb2'.out.size))
          clear ho3 hb3 hrun
          go_wp2_with fail
          go_roundw
          case rel => exact ⟨k + 1, by omega, by go_num, hb3'⟩
          case measure => simp [intOf]; omega
        · have hk' : k = 6 := by omega
          subst hk'
          have hbW := hbZ.out.trans (hb.out.mono hbZ.out.size)
          have hr0 := Lib.hid (lit_bytes wr [0] #[.int .u8 0] 1 rfl rfl (by decide))
          have hb1 := Lib.hid (hbW.alloc hbW.size (.cells #[.int .u8 0] 5))
          clear hBZ' hb hbW hbZ
          go_wp2_with fail
          refine (prog_rd hr0.out (by decide) 0 (Nat.zero_le _) true).mono ?_
          rintro e w2 ⟨ho2, hb2⟩
          rw [kRoot] at ho2
          obtain ⟨v2, rfl, ho2⟩ := ho2
          obtain ⟨a2, c2, e2⟩ := ho2.shape
          have e2' : v2 = .slice a2 0 c2 := e2
          subst e2'
          have hb2' := hb1.out.trans (hb2.mono hb1.out.size)
          have hr3 := Lib.hid (lit_bytes w2 [0] #[.int .u8 0] 1 rfl rfl (by decide))
          have hb3 := Lib.hid (hb2'.alloc hb2'.size (.cells #[.int .u8 0] 5))
          clear ho2 hb2 hb2' e2 hr0 hb1
          go_wp2_with fail
          refine (prog_all (L := []) (q := 0) (k := 2) hr3.out (by decide) 2 true (by decide)).mono ?_
          rintro e w4 ⟨⟨v4, rfl, ho4⟩, hb4⟩
          obtain ⟨a4, c4, e4⟩ := ho4.shape
          have e4' : v4 = .slice a4 0 c4 := e4
          subst e4'
          have hb4' := Lib.hid (hb3.out.trans (hb4.mono hb3.out.size))
          clear ho4 hb4 e4 hr3 hb3
          go_wp2_with fail
          refine (wr_new (w := w4)).mono ?_
          rintro e w5 ⟨⟨g5, mb5, rfl, hW5⟩, hb5⟩
          have hb5' := hb4'.out.trans (hb5.mono hb4'.out.size)
          have hlo5 : Hid (W.heap.size ≤ w4.heap.size) := Lib.hid hb4'.out.size
          obtain ⟨Z6, hZ6⟩ : ∃ Y, w5.alloc (.cells C65 5) = Y := ⟨_, rfl⟩
          have hr6 : Hid (Rd byteE Z6 (some ⟨w5.heap.size, 0, none⟩) 65535 65535 X65) := Lib.hid (by rw [← hZ6]; exact hr65'.out w5)
          have hW6 : Hid (Wr Z6 w4.heap.size g5 [] 0 (fun _ => none) none 0 mb5) := Lib.hid (by rw [← hZ6]; exact hW5.ext ((Below.refl _ _).alloc (Nat.le_refl _) _))
          have hb6 : Hid (Below W.heap.size W Z6) := Lib.hid (by rw [← hZ6]; exact hb5'.alloc hb5'.size _)
          have hlo6 : Hid (w4.heap.size ≤ Z6.heap.size) := Lib.hid (by rw [← hZ6]; have := hb5.size; simp; omega)
          have hmk5 : (Instr.makeSlice 22 (.int .i64 65535) (.int .i64 65535)).run Try.prog w5 = .ok (.slice (some ⟨w5.heap.size, 0, none⟩) 65535 65535) Z6 := by rw [← hZ6]; exact hmk.out w5
          clear hZ6 hW5 hb5 hb5' hb4'
          go_wp2_with fail
          refine (wr_bytes hW6.out hr6.out (by decide) hlo6.out).mono ?_
          rintro e w7 ⟨rfl, ⟨a7, c7, hW7⟩, hT7⟩
          have hb7 := hb6.out.trans (hT7.below hb6.out.size fun b _ hs => by
            rcases hs with rfl | hs
            · exact Nat.le_trans hlo5.out hW6.out.low
            · cases hs)
          have hlB : ([] ++ X65).length = 65535 := by simpa using hX65'.out
          have hW8 := Lib.hid (hW7.ext ((Below.refl _ _).alloc (Nat.le_refl _) (.cells #[.int .u8 1] 5)))
          have hb8 := Lib.hid (hb7.alloc hb7.size (.cells #[.int .u8 1] 5))
          have hlB' := Lib.hid hlB
          clear hW7 hT7 hb7 hlB hW6 hr6 hb6
          go_wp2_with fail
          refine (wr_full hW8.out _ _ _ (by rw [hlB'.out]; decide) (by rw [hlB'.out]; decide)).mono ?_
          rintro e w9 ⟨rfl, rfl⟩
          go_wp2_with fail
          refine (wr_root_full hW8.out hlB'.out true).mono ?_
          rintro e w10 ⟨rfl, hb10⟩
          have hW10 := Lib.hid (hW8.out.ext hb10)
          have hb10' := Lib.hid (hb8.out.trans (hb10.mono hb8.out.size))
          clear hb10 hW8 hb8
          go_wp2_with fail
          refine (wr_set1 hW10.out hlB'.out).mono ?_
          rintro e w11 ⟨rfl, rfl⟩
          go_wp2_with fail
          refine (wr_set2 hW10.out).mono ?_
          rintro e w11 ⟨rfl, rfl⟩
          go_wp2_with fail
          refine (wr_cut1 hW10.out (by rw [hlB'.out]; decide) (by rw [hlB'.out]; decide)).mono ?_
          rintro e w12 ⟨rfl, ⟨a12, hW12⟩, hb12⟩
          have hW12' := Lib.hid hW12
          have hb12' := Lib.hid (hb10'.out.trans (hb12.mono hlo5.out))
          have hl12 : Hid ((List.take 1 ([] ++ X65)).length = 1) := Lib.hid (by have := hlB'.out; rw [List.length_take, this]; rfl)
          clear hW12 hb12 hW10 hb10'
          go_wp2_with fail
          refine (wr_cut2 hW12'.out hl12.out).mono ?_
          rintro e w13 ⟨rfl, rfl⟩
          go_wp2_with fail
          refine (awake_any _).mono ?_
          rintro e w14 ⟨rfl, hb14⟩
          have hW14 := Lib.hid (hW12'.out.ext hb14)
          have hb14' := Lib.hid (hb12'.out.trans (hb14.mono hb12'.out.size))
          clear hb14 hW12' hb12'
          go_wp2_with fail
          refine (wr_len hW14.out).mono ?_
          rw [hl12.out]
          rintro e w15 ⟨rfl, rfl⟩
          go_wp2_with fail
          go_ret
          exact ⟨rfl, hb14'.out⟩
theorem squeezeKnown_law (W : World) : Calls Try.prog 8 #[] W fun e w' => e = .returned (.bool true) ∧ Below W.heap.size W w' := squeezeKnown_walk W
end Go.Proofs.Ytndpebhhgicooaa
