/- awake 19; what Read answers to a record that Record made. -/
import Derived.Test.YthgnlbdolilklaaSaR
namespace Go.Proofs.Ythgnlbdolilklaa
open Go Go.RowKit
theorem RdO.none (w : World) : RdO w none 0 0 [] := ⟨[], Rd.nil _ _, rfl, fun j p o h => by simp at h⟩
def zR : List Value := rC nilV 0 0 0 nilV nilV nilV nilV
theorem own_nil {w : World} {b : Nat} {v : Value} (h : Own byteE w b v []) : ∃ a c, v = .slice a 0 c := by
  obtain ⟨a, c, e, _⟩ := h.rd
  exact ⟨a, c, e⟩
set_option maxHeartbeats 4000000 in
set_option maxRecDepth 100000 in
theorem awake_any (w : World) : Calls Try.prog 19 #[] w fun e w' => e = .returned (.bool true) ∧ Below w.heap.size w w' := by
  have hr : Calls Try.prog 11 #[.agg #[.int .i64 1232, .int .i64 0, .int .i64 0, .bool true, .slice none 0 0]] w fun e w' => (∃ a c, e = .returned (.tuple #[.agg #[.slice none 0 0, .int .u16 41, .int .u16 1232, .int .u32 32768, .slice none 0 0, .slice none 0 0, .slice none 0 0, .slice a 0 c], .int .i64 0])) ∧ Below w.heap.size w w' := by
    refine (rec_any (RdO.none w) (fun o ho => by cases ho) (fun o ho => by cases ho) 1232 0 0 true).mono ?_
    rintro e w' ⟨h1, h2⟩
    refine ⟨?_, h2⟩
    unfold RecB at h1
    rw [if_pos ⟨by decide, by decide⟩] at h1
    obtain ⟨v, rfl, ho⟩ := h1
    obtain ⟨a, c, rfl⟩ := own_nil ho
    exact ⟨a, c, rfl⟩
  have hr' := Lib.hid hr
  clear hr
  go_enter Try.func19, Try.ntmps19
  go_wp2_with fail
  refine hr'.out.mono ?_
  rintro e w1 ⟨⟨a, c, rfl⟩, hb1⟩
  obtain ⟨W2, hW2⟩ : ∃ W2, w1.alloc (.cells #[.slice none 0 0, .int .u16 0, .int .u16 0, .int .u32 0, .slice none 0 0, .slice none 0 0, .slice none 0 0, .slice none 0 0] 37) = W2 := ⟨_, rfl⟩
  have hR2 : Hid (Blk W2 w1.heap.size 37 (0, 0) zR) := Lib.hid (by rw [← hW2]; exact Blk.new w1 37 (0, 0) #[.slice none 0 0, .int .u16 0, .int .u16 0, .int .u32 0, .slice none 0 0, .slice none 0 0, .slice none 0 0, .slice none 0 0])
  have hb2 : Hid (Below w.heap.size w W2) := Lib.hid (by rw [← hW2]; exact hb1.alloc hb1.size _)
  have hz : Hid (w.heap.size ≤ w1.heap.size) := Lib.hid hb1.size
  clear hb1
  go_wp2_with (refine store_whole rfl 37 (.tmp 1) (.tmp 6) rfl rfl rfl hR2.out (by rfl) (by kernel_rfl) (by kernel_rfl) ?_; intro w6 hB6 hg6 hz6; have hR6 := Lib.hid hB6; have hb6 := Lib.hid (hb2.out.grown hg6 hb2.out.size (fun k hk => by cases hk; exact hz.out)); clear hB6 hg6 hz6; have c0 : w6.cell? ⟨w1.heap.size, 0, none⟩ = some (.slice none 0 0) := (hR6.out.cell 0).trans rfl; have c1 : w6.cell? ⟨w1.heap.size, 1, none⟩ = some (.int .u16 41) := (hR6.out.cell 1).trans rfl; have c2 : w6.cell? ⟨w1.heap.size, 2, none⟩ = some (.int .u16 1232) := (hR6.out.cell 2).trans rfl; have c3 : w6.cell? ⟨w1.heap.size, 3, none⟩ = some (.int .u32 32768) := (hR6.out.cell 3).trans rfl; have c7 : w6.cell? ⟨w1.heap.size, 7, none⟩ = some (.slice a 0 c) := (hR6.out.cell 7).trans rfl)
  go_ret
  exact ⟨rfl, hb6.out⟩
theorem mayB_iff {sz hi ver : Int} (h : mayB sz hi ver = true) : 0 ≤ sz ∧ sz ≤ 65535 ∧ 0 ≤ hi ∧ hi ≤ 255 ∧ 0 ≤ ver ∧ ver ≤ 255 := by unfold mayB at h; exact of_decide_eq_true h
theorem sum_ge : ∀ (O : List Opt) {o : Opt}, o ∈ O → 4 + o.2.length ≤ (O.map fun o => 4 + o.2.length).sum
  | x :: r, o, h => by
    rw [List.map_cons, List.sum_cons]
    rcases List.mem_cons.1 h with rfl | h
    · omega
    · have := sum_ge r h
      omega
theorem okO_of {O : List Opt} (hC : ∀ o ∈ O, o.1 < 65536) (hl : (rawB O).length ≤ 65535) : okO O := fun o ho => by
  refine ⟨hC o ho, ?_⟩
  have h1 := sum_ge O ho
  rw [rawB_len] at hl
  omega
/-- Read of Record -/
theorem read_rec {w : World} {b : Nat} {v : Value} {O : List Opt} {sz hi ver : Int} {d : Bool} (hm : mayB sz hi ver = true) (hl : (rawB O).length ≤ 65535) (hC : ∀ o ∈ O, o.1 < 65536) (ho : Own byteE w b v (rawB O)) :
    Calls Try.prog 13 #[rV nilV 41 sz.toNat (ttlN hi.toNat ver.toNat d) nilV nilV nilV v] w fun e w' => (∃ u, e = .returned (.tuple #[eV sz hi ver d u, .int .i64 0]) ∧ OwnO w' w.heap.size u O) ∧ Below w.heap.size w w' := by
  obtain ⟨a, c, rfl, hR⟩ := ho.rd
  obtain ⟨m1, m2, m3, m4, m5, m6⟩ := mayB_iff hm
  obtain ⟨t1, t2, t3, t4, t5⟩ := ttl_of hi.toNat ver.toNat d (by omega) (by omega)
  refine (read_any none 0 0 41 sz.toNat (ttlN hi.toNat ver.toNat d) none 0 0 none 0 0 none 0 0 hR t1 (by decide) (by omega) (by decide) (by decide) (by decide) (by decide) (by omega)).mono ?_
  rintro e w' ⟨h1, h2⟩
  refine ⟨?_, h2⟩
  unfold ReadB at h1
  rw [if_pos ⟨rfl, rfl, t2, rfl, rfl, rfl, hl⟩, prs_of_raw (okO_of hC hl)] at h1
  obtain ⟨u, rfl, hu⟩ := h1
  refine ⟨u, ?_, hu⟩
  rw [t3, t4, t5, Int.toNat_of_nonneg m1, Int.toNat_of_nonneg m3, Int.toNat_of_nonneg m5]
/-- Record of Read -/
theorem rec_read {w : World} {b : Nat} {v : Value} {A : List Opt} {raw : List UInt8} {cl ttl : Nat} (hp : prs raw 0 = some A) (hcl : cl < 65536) (ht : ttl < 4294967296) (h0 : ttl % 32768 = 0) (hl : raw.length ≤ 65535) (ho : OwnO w b v A) :
    Calls Try.prog 11 #[eV cl (ttl / 16777216 : Nat) (ttl / 65536 % 256 : Nat) (ttl / 32768 % 2 == 1) v] w fun e w' => (∃ a c, e = .returned (.tuple #[rV nilV 41 cl ttl nilV nilV nilV (.slice a raw.length c), .int .i64 0]) ∧ Rd byteE w' a raw.length c raw) ∧ Below w.heap.size w w' := by
  obtain ⟨a, c, rfl, hR⟩ := ho.rdO
  obtain ⟨e1, hk⟩ := raw_of_prs hp
  refine (rec_any hR (fun o ho => by have := (hk o ho).2; omega) (fun o ho => (hk o ho).1) _ _ _ _).mono ?_
  rintro e w' ⟨h1, h2⟩
  refine ⟨?_, h2⟩
  unfold RecB at h1
  rw [← e1] at h1
  have hm : mayB (cl : Int) ((ttl / 16777216 : Nat) : Int) ((ttl / 65536 % 256 : Nat) : Int) = true := by unfold mayB; exact decide_eq_true (by omega)
  rw [if_pos ⟨hm, hl⟩] at h1
  obtain ⟨v, rfl, hv⟩ := h1
  obtain ⟨a', c', rfl, hr⟩ := hv.rd
  refine ⟨a', c', ?_, hr⟩
  rw [Int.toNat_natCast, Int.toNat_natCast, Int.toNat_natCast, ttl_back ttl ht h0]
end Go.Proofs.Ythgnlbdolilklaa
