/- The document's picker: hear 43. -/
import Derived.Test.YtjkeijjfjbcaiaaPkP
namespace Go.Proofs.Ytjkeijjfjbcaiaa
open Go.RowKit
theorem al_drew_below (w : World) (o : Obj) : Below w.heap.size w (w.drew.alloc o) := ((Below.refl _ w).drew).alloc (Nat.le_refl _) _
theorem Rk.put {w : World} {p : Nat} {room : Int} {x : Value} {a : Option Addr} {c : Nat} {L : List Kn} (hB : Blk w p 49 (0, 0) [.int .i64 room, x]) (hR : Rd knE w a L.length c L) (hne : ∀ b o s, a = some ⟨b, o, s⟩ → b ≠ p) : Rk (w.setCell ⟨p, 1, none⟩ (.slice a L.length c)) p room a c L :=
  ⟨hB.set 1 _, hR.keep (fun b o s e _ => Below.heap_setCell _ _ _ _ (hne b o s e)), hne⟩
set_option maxHeartbeats 8000000 in
set_option maxRecDepth 100000 in
theorem hear43 {w : World} {p : Nat} {room : Int} {a : Option Addr} {c : Nat} {L : List Kn} (h : Rk w p room a c L) (h1 : 1 ≤ room) (hl : L.length ≤ 100000) (x : Kn) :
    Calls Try.prog 43 #[.pointer (some ⟨p, 0, none⟩), knV x] w fun e w' => e = .returned (.tuple #[]) ∧ ∃ a' c', Rk w' p room a' c' (hrd room L x) ∧ Tch (fun b => b = p) w w' ∧ ∀ b o s, a' = some ⟨b, o, s⟩ → w.heap.size ≤ b := by
  have hp := h.blk.lt
  obtain ⟨xa, xt, xf, xg⟩ := x
  have hb0 := Lib.hid (al_below w (.cells #[.int .u32 xa, .int .i64 xt, .int .i64 xf, .int .i64 xg] 34))
  have h0 := Lib.hid (h.ext hb0.out)
  have hN := Lib.hid (Blk.new w 34 (0, 0) #[.int .u32 xa, .int .i64 xt, .int .i64 xf, .int .i64 xg])
  have hsz := Lib.hid (size_al w (.cells #[.int .u32 xa, .int .i64 xt, .int .i64 xf, .int .i64 xg] 34))
  have hl' := Lib.hid hl
  have hLM : (L.length : Int) ≤ 100000 := by omega
  obtain ⟨i0, hi, hz0, hz1, hz2⟩ := info_parts Try.info34x
  have hI := Lib.hid (And.intro hi (And.intro hz0 (And.intro hz1 hz2)))
  clear h hl hi hz0 hz1 hz2
  unfold knV
  dsimp only
  go_enter Try.func43, Try.ntmps43
  go_wp2_with fail
  generalize w.alloc (.cells #[.int .u32 xa, .int .i64 xt, .int .i64 xf, .int .i64 xg] 34) = w0 at *
  go_loopw [4, 5] (fun v i wr => ∃ k : Nat, k ≤ L.length ∧ i = .int .i64 k ∧ Below w0.heap.size w0 wr ∧ Hid (Own knE wr w0.heap.size v (wo (L.take k) xa))) (fun _ i _ => L.length - (intOf i).toNat)
  case atStart => exact ⟨0, Nat.zero_le _, rfl, Below.refl _ _, Lib.hid (Own.nil _ _ _)⟩
  case round =>
    obtain ⟨k, hk, rfl, hb, hO⟩ := hrel
    have hRk := h0.out.ext hb
    have hN2 := hN.out.below hb hN.out.lt
    have q1 : wr.cell? ⟨p, 1, none⟩ = some (.slice a L.length c) := hRk.blk.cell 1
    have hb' := Lib.hid hb
    by_cases hlt : k < L.length
    · have hkI : (k : Int) < L.length := by omega
      have hk0 : (0 : Int) ≤ k := by omega
      obtain ⟨b, o, rfl, hbs, hc⟩ := rd_kn hRk.rd (by omega)
      obtain ⟨c0, c1, c2, c3⟩ := hc k (by omega)
      have n0 : wr.cell? ⟨w.heap.size, 0, none⟩ = some (.int .u32 xa) := hN2.cell 0
      have hw := wo_snoc (L.take k) (L[k]'hlt) xa
      rw [← List.take_succ_eq_append_getElem (by omega)] at hw
      have hw' := Lib.hid hw
      have hln : Hid ((wo (L.take k) xa).length ≤ 100000) := Lib.hid (by
        have h1 := wo_len (L.take k) xa
        rw [List.length_take] at h1
        have := hl'.out
        omega)
      clear hc hw hN2 hRk hb
      generalize L[k]'hlt = z at *
      generalize wo (L.take k) xa = F at *
      obtain ⟨za, zt, zf, zg⟩ := z
      dsimp only at *
      obtain ⟨va, vc, rfl⟩ := hO.out.shape
      by_cases hza : za = xa
      · have hzb : (za == xa) = true := beq_iff_eq.2 hza
        rw [if_pos hza] at hw'
        have hza' := Lib.hid hza
        clear hza
        go_wp2_with fail
        go_region
        go_wp2_with fail
        go_roundw
        case rel => exact ⟨k + 1, by omega, by go_num, hb'.out.drew, by rw [hw'.out]; exact Lib.hid (hO.out.ext ((Below.refl _ _).drew))⟩
        case measure => simp [intOf]; omega
      · have hzb : (za == xa) = false := beq_eq_false_iff_ne.2 hza
        rw [if_neg hza] at hw'
        obtain ⟨W1, hW1⟩ : ∃ W1, wr.drew.alloc (.cells #[.int .u32 za, .int .i64 zt, .int .i64 zf, .int .i64 zg] 34) = W1 := ⟨_, rfl⟩
        have hbW : Below wr.heap.size wr W1 := by rw [← hW1]; exact al_drew_below _ _
        have hO2 := hO.out.ext hbW
        have hsrc : Src Try.prog knE.k 31 (.slice (some ⟨wr.heap.size, 0, none⟩) 1 1) [(⟨za, zt, zf, zg⟩ : Kn)].length (rowOf knE [⟨za, zt, zf, zg⟩]) W1 := by
          rw [← hW1]; exact src_lit (E := knE) (w := wr.drew) (e' := 34) Try.underlying31 _ [⟨za, zt, zf, zg⟩] 1 rfl rfl
        obtain ⟨v', w5, hrun, ho, hg, -⟩ := run_append_Own (P := Try.prog) knE W1 w0.heap.size 31 31 31 i0 _ 32 Try.underlying31 hI.out.1 hI.out.2.1 hI.out.2.2.1 hI.out.2.2.2 rfl _ _ hO2 _ [⟨za, zt, zf, zg⟩] hsrc (by have := hln.out; simp [maxLen]; omega) (by have := hln.out; simp; omega) (Nat.le_trans hb'.out.size hbW.size)
        have hb5 := Lib.hid (own_below (hb'.out.trans (hbW.mono hb'.out.size)) hg hO2 (Nat.le_trans hb'.out.size hbW.size) (Nat.le_refl _))
        have hO5 := Lib.hid ho
        rw [← hw'.out] at hO5
        obtain ⟨va5, vc5, rfl⟩ := ho.shape
        have el : (F ++ [(⟨za, zt, zf, zg⟩ : Kn)]).length = F.length + 1 := by simp
        rw [el] at hO5
        clear el
        clear ho hg hsrc hO2 hbW hza
        go_wp2_with fail
        go_region
        go_wp2_with (at_builtin; refine app_run rfl (.tmp 26) (.tmp 34) 31 31 rfl rfl rfl hrun ?_)
        go_roundw
        case rel => exact ⟨k + 1, by omega, by go_num, hb5.out, hO5⟩
        case measure => simp [intOf]; omega
    · have hk' : k = L.length := by omega
      subst hk'
      rw [List.take_of_length_le (Nat.le_refl _)] at hO
      have hln : Hid ((wo L xa).length ≤ 100000) := Lib.hid (by
        have h1 := wo_len L xa
        have := hl'.out
        omega)
      have hrE : Hid (hrd room L ⟨xa, xt, xf, xg⟩ = if room < ((wo L xa ++ [(⟨xa, xt, xf, xg⟩ : Kn)]).length : Int) then (wo L xa ++ [(⟨xa, xt, xf, xg⟩ : Kn)]).drop 1 else wo L xa ++ [(⟨xa, xt, xf, xg⟩ : Kn)]) := Lib.hid rfl
      have n0 : wr.cell? ⟨w.heap.size, 0, none⟩ = some (.int .u32 xa) := hN2.cell 0
      have n1 : wr.cell? ⟨w.heap.size, 1, none⟩ = some (.int .i64 xt) := hN2.cell 1
      have n2 : wr.cell? ⟨w.heap.size, 2, none⟩ = some (.int .i64 xf) := hN2.cell 2
      have n3 : wr.cell? ⟨w.heap.size, 3, none⟩ = some (.int .i64 xg) := hN2.cell 3
      generalize wo L xa = F at *
      obtain ⟨va, vc, rfl⟩ := hO.out.shape
      obtain ⟨W1, hW1⟩ : ∃ W1, wr.alloc (.cells #[.int .u32 xa, .int .i64 xt, .int .i64 xf, .int .i64 xg] 34) = W1 := ⟨_, rfl⟩
      have hbW : Below wr.heap.size wr W1 := by rw [← hW1]; exact al_below _ _
      have hO2 := hO.out.ext hbW
      have hsrc : Src Try.prog knE.k 31 (.slice (some ⟨wr.heap.size, 0, none⟩) 1 1) [(⟨xa, xt, xf, xg⟩ : Kn)].length (rowOf knE [⟨xa, xt, xf, xg⟩]) W1 := by
        rw [← hW1]; exact src_lit (E := knE) (w := wr) (e' := 34) Try.underlying31 _ [⟨xa, xt, xf, xg⟩] 1 rfl rfl
      obtain ⟨v', w5, hrun, ho, hg, -⟩ := run_append_Own (P := Try.prog) knE W1 w0.heap.size 31 31 31 i0 _ 32 Try.underlying31 hI.out.1 hI.out.2.1 hI.out.2.2.1 hI.out.2.2.2 rfl _ _ hO2 _ [⟨xa, xt, xf, xg⟩] hsrc (by have := hln.out; simp [maxLen]; omega) (by have := hln.out; simp; omega) (Nat.le_trans hb'.out.size hbW.size)
      have hb5 := own_below (hb'.out.trans (hbW.mono hb'.out.size)) hg hO2 (Nat.le_trans hb'.out.size hbW.size) (Nat.le_refl _)
      have hR5 := h0.out.ext hb5
      have hb6 := Lib.hid (hb0.out.trans (hb5.mono hb0.out.size))
      have hl5 : Hid ((F ++ [(⟨xa, xt, xf, xg⟩ : Kn)]).length ≤ 1000000) := Lib.hid (by have := hln.out; simp; omega)
      have el : (F ++ [(⟨xa, xt, xf, xg⟩ : Kn)]).length = F.length + 1 := by simp
      have el' := Lib.hid el
      have y0 : w5.cell? ⟨p, 0, none⟩ = some (.int .i64 room) := hR5.blk.cell 0
      have y1 : w5.cell? ⟨p, 1, none⟩ = some (.slice a L.length c) := hR5.blk.cell 1
      have y2 : w5.frozen? ⟨p, 1, none⟩ = false := hR5.blk.frozen 1
      have hB5 := Lib.hid hR5.blk
      have hT5 : Hid (Tch (fun b => b = p) w w5) := Lib.hid (Tch.of_below hb6.out)
      clear hsrc hO2 hg hbW hN2 hRk hb hR5 el
      generalize F ++ [(⟨xa, xt, xf, xg⟩ : Kn)] = N at *
      rcases ho with ⟨_, e0⟩ | ⟨g, cap, X, rfl, hbg, hBg, hX, hle, hcm, htk⟩
      · have := el'.out
        rw [e0] at this
        simp at this
      have hRd : Rd knE w5 (some ⟨g, 0, none⟩) N.length cap N := by
        obtain ⟨a, c, e, h⟩ := Own.rd (E := knE) (w := w5) (base := w0.heap.size) (v := .slice (some ⟨g, 0, none⟩) N.length cap) (l := N) (.inr ⟨g, cap, X, rfl, hbg, hBg, hX, hle, hcm, htk⟩)
        cases e
        exact h
      have hgw : Hid (w.heap.size ≤ g) := Lib.hid (Nat.le_trans hb0.out.size hbg)
      by_cases hgt : room < (N.length : Int)
      · have hR2 := hRd.cut 1 N.length cap (by omega) (Nat.le_refl _) hle (Nat.le_refl _)
        rw [if_neg (by omega), List.take_of_length_le (Nat.le_refl _)] at hR2
        simp only [Option.map_some, Addr.add_lit, knE, Nat.zero_add, Nat.one_mul] at hR2
        have hd : N.length - 1 = (N.drop 1).length := by simp
        rw [hd] at hR2
        have r2 : ∀ u, (Instr.slice 31 (.slice (some ⟨g, 0, none⟩) N.length cap) (some (.int .i64 1)) none none).run Try.prog u = .ok (.slice (some ⟨g, 4, none⟩) (N.drop 1).length (cap - 1)) u := fun u => by
          rw [← hd]
          exact run_from (P := Try.prog) u 31 34 4 Try.underlying31 (by kernel_rfl) g N.length cap 1 (by omega) (by omega) hle
        have hP := Lib.hid (Rk.put hB5.out hR2 (fun b o s e => by cases e; have := hgw.out; omega))
        have hT := Lib.hid (hT5.out.trans (Tch.setCell (S := fun b => b = p) w5 (p := ⟨p, 1, none⟩) rfl (.slice (some ⟨g, 4, none⟩) (N.drop 1).length (cap - 1))) (fun _ _ h => h))
        have hrN : Hid (hrd room L ⟨xa, xt, xf, xg⟩ = N.drop 1) := Lib.hid (by rw [hrE.out, if_pos hgt])
        clear hR2 hRd hBg hX htk hd hrE
        generalize N.drop 1 = D at *
        generalize D.length = dl at *
        generalize N.length = nl at *
        go_wp2_with (at_builtin; refine app_run rfl (.tmp 36) (.tmp 38) 31 31 rfl rfl rfl hrun ?_)
        go_end0
        have hQ := hP.out
        rw [← hrN.out] at hQ
        first
          | exact ⟨rfl, some ⟨g, 4, none⟩, cap - 1, hQ, hT.out, fun b o s e => by cases e; exact hgw.out⟩
          | exact ⟨rfl, some ⟨g, 4, none⟩, ⟨cap - 1, hQ⟩, hT.out, fun b o s e => by cases e; exact hgw.out⟩
      · have hP := Lib.hid (Rk.put hB5.out hRd (fun b o s e => by cases e; have := hgw.out; omega))
        have hT := Lib.hid (hT5.out.trans (Tch.setCell (S := fun b => b = p) w5 (p := ⟨p, 1, none⟩) rfl (.slice (some ⟨g, 0, none⟩) N.length cap)) (fun _ _ h => h))
        have hrN : Hid (hrd room L ⟨xa, xt, xf, xg⟩ = N) := Lib.hid (by rw [hrE.out, if_neg hgt])
        clear hRd hBg hX htk hrE
        generalize N.length = nl at *
        go_wp2_with (at_builtin; refine app_run rfl (.tmp 36) (.tmp 38) 31 31 rfl rfl rfl hrun ?_)
        go_end0
        have hQ := hP.out
        rw [← hrN.out] at hQ
        first
          | exact ⟨rfl, some ⟨g, 0, none⟩, cap, hQ, hT.out, fun b o s e => by cases e; exact hgw.out⟩
          | exact ⟨rfl, some ⟨g, 0, none⟩, ⟨cap, hQ⟩, hT.out, fun b o s e => by cases e; exact hgw.out⟩
end Go.Proofs.Ytjkeijjfjbcaiaa
