/- The document's pipe: New 11, at 36, Open 13, Close 15, Keys 18. -/
import Derived.Test.YtmimbfikjnfhdaaStL
namespace Go.Proofs.Ytmimbfikjnfhdaa
open Go.RowKit
def openE : Enc (Int × Int) := ⟨79, 2, fun p => [.int .u16 p.1, .int .i64 p.2], (0, 0), fun _ => rfl, fun x v hv => by simp at hv; rcases hv with rfl | rfl <;> rfl, by decide⟩
theorem info79p : (Try.prog.info? 79).map (fun i => (i.zero, i.size, i.bytes)) = some (some (.agg #[.int .u16 0, .int .i64 0]), 2, 16) := by kernel_rfl
theorem rd_open {w : World} {a : Option Addr} {n c : Nat} {l : List (Int × Int)} (h : Rd openE w a n c l) (h0 : 0 < n) : ∃ b o, a = some ⟨b, o, none⟩ ∧ b < w.heap.size ∧ ∀ j (hj : j < l.length), w.cell? ⟨b, o + j * 2, none⟩ = some (.int .u16 l[j].1) ∧ w.cell? ⟨b, o + j * 2 + 1, none⟩ = some (.int .i64 l[j].2) := by
  obtain ⟨b, o, h1, h3, h2⟩ := h.addr h0
  refine ⟨b, o, h1, h3, fun j hj => ⟨?_, ?_⟩⟩
  · have := h2 j hj 0 (by decide); simpa [openE] using this
  · have := h2 j hj 1 (by decide); simpa [openE, Nat.add_assoc] using this
def PipR (w : World) (g : Nat) (o : Option Nat) (most : Int) (L : List (Int × Int)) : Prop :=
  ∃ v, Blk w g 76 (0, 0) [.int .i64 most, v] ∧ Own openE w (g + 1) v L ∧ v.ownBlock = o
def fr (g : Nat) (o : Option Nat) (k : Nat) : Prop := k = g ∨ o = some k
theorem PipR.lt {w : World} {g : Nat} {o : Option Nat} {most : Int} {L : List (Int × Int)} (h : PipR w g o most L) : g < w.heap.size ∧ ∀ k, o = some k → g + 1 ≤ k ∧ k < w.heap.size := by
  obtain ⟨v, h1, h2, rfl⟩ := h
  exact ⟨h1.lt, fun k hk => h2.lt k hk⟩
theorem PipR.tch {w w' : World} {g : Nat} {o : Option Nat} {most : Int} {L : List (Int × Int)} {S : Nat → Prop} (h : PipR w g o most L) (t : Tch S w w') (hn : ∀ k, fr g o k → ¬ S k) : PipR w' g o most L := by
  obtain ⟨v, h1, h2, rfl⟩ := h
  exact ⟨v, t.blk h1 (hn _ (.inl rfl)), t.own h2 (fun b hb => hn _ (.inr hb)), rfl⟩
theorem rnew_yes (w : World) (most : Int) (h1 : 1 ≤ most) (h2 : most ≤ 256) : Calls Try.prog 11 #[.int .i64 most] w fun e w' => e = .returned (.tuple #[.pointer (some ⟨w.heap.size, 0, none⟩), .int .i64 0]) ∧ PipR w' w.heap.size none most [] ∧ Below w.heap.size w w' := by
  go_enter Try.func11, Try.ntmps11
  go_wp2_with fail
  ((try simp only [Exit.inBlock, Exit.then]); refine bodyPost_ret (results_tmp2 rfl _ _ _) rfl ?_)
  exact ⟨rfl, ⟨_, Blk.new w 76 (0, 0) #[.int .i64 most, .slice none 0 0], Own.nil _ _ _, rfl⟩, (Below.refl _ _).alloc (Nat.le_refl _) _⟩
theorem rnew_no (w : World) (most : Int) (h : most < 1 ∨ 256 < most) : Calls Try.prog 11 #[.int .i64 most] w fun e w' => e = .returned (.tuple #[.pointer none, .int .i64 2]) ∧ w = w' := by
  by_cases h1 : most < 1
  · go_enter Try.func11, Try.ntmps11
    go_wp2_with fail
    ((try simp only [Exit.inBlock, Exit.then]); refine bodyPost_ret (results_tmp2 rfl _ _ _) rfl ?_)
    exact ⟨rfl, rfl⟩
  · have h1' : ¬ most < 1 := h1
    have h2 : 256 < most := by omega
    go_enter Try.func11, Try.ntmps11
    go_wp2_with fail
    ((try simp only [Exit.inBlock, Exit.then]); refine bodyPost_ret (results_tmp2 rfl _ _ _) rfl ?_)
    exact ⟨rfl, rfl⟩
theorem lookI_before {L : List (Int × Int)} {id : Int} {k : Nat} (hd : (ids L).Nodup) (hk : k < L.length) (hy : L[k].1 = id) : ∀ j, (hj : j < k) → L[j].1 ≠ id := by
  intro j hj e
  have h1 : (ids L)[j]'(by rw [ids_length]; omega) = (ids L)[k]'(by rw [ids_length]; omega) := by simp [ids, e, hy]
  have := (List.getElem_inj hd).1 h1
  omega
theorem lookI_some {L : List (Int × Int)} {id v : Int} (h : lookI L id = some v) : ∃ k, ∃ hk : k < L.length, L[k] = (id, v) := by
  unfold lookI at h
  obtain ⟨p, hp, rfl⟩ := Option.map_eq_some_iff.1 h
  have h2 := List.find?_some hp
  obtain ⟨k, hk, e⟩ := List.getElem_of_mem (List.mem_of_find?_eq_some hp)
  refine ⟨k, hk, ?_⟩
  rw [e]
  simp at h2
  exact Prod.ext h2 rfl
set_option maxHeartbeats 4000000 in
set_option maxRecDepth 100000 in
theorem rat_none {w : World} {g : Nat} {o : Option Nat} {most : Int} {L : List (Int × Int)} (h : PipR w g o most L) {id : Int} (hv : lookI L id = none) (hL : L.length ≤ 1000000) :
    Calls Try.prog 36 #[.pointer (some ⟨g, 0, none⟩), .int .u16 id] w fun e w' => e = .returned (.int .i64 (-1)) ∧ w = w' := by
  obtain ⟨v, h1, h2, _⟩ := h
  obtain ⟨a, c, e0, hR⟩ := h2.rd
  subst e0
  have c1 : w.cell? ⟨g, 1, none⟩ = some (.slice a L.length c) := by rw [h1.cell]; rfl
  have hR' := Lib.hid hR
  have hv' := Lib.hid (lookI_none.1 hv)
  clear h1 h2 hR hv
  go_enter Try.func36, Try.ntmps36
  go_wp2_with fail
  go_loopw [5] (fun i wr => ∃ k : Nat, k ≤ L.length ∧ i = .int .i64 k ∧ w = wr) (fun i _ => L.length - (intOf i).toNat)
  case atStart => exact ⟨0, Nat.zero_le _, rfl, rfl⟩
  case round =>
    obtain ⟨k, hk, rfl, rfl⟩ := hrel
    by_cases hlt : k < L.length
    · have hkI : (k : Int) < L.length := by omega
      obtain ⟨b, o1, e1, _, hc⟩ := rd_open hR'.out (by omega)
      subst e1
      have hck := (hc k hlt).1
      have hne : (L[k].1 == id) = false := by
        rw [beq_eq_false_iff_ne]
        intro e
        exact hv'.out (e ▸ List.mem_map_of_mem (List.getElem_mem hlt))
      clear hc
      generalize L[k].1 = x at *
      go_wp2_with fail
      go_roundw
      case rel => exact ⟨k + 1, by omega, by go_num, trivial⟩
      case measure => simp [intOf]; omega
    · have hk' : k = L.length := by omega
      subst hk'
      go_wp2_with fail
      go_ret
      exact ⟨rfl, rfl⟩
set_option maxHeartbeats 4000000 in
set_option maxRecDepth 100000 in
theorem rat_some {w : World} {g : Nat} {o : Option Nat} {most : Int} {L : List (Int × Int)} (h : PipR w g o most L) {id : Int} {k0 : Nat} (hk0 : k0 < L.length) (hy : L[k0].1 = id) (hd : (ids L).Nodup) (hL : L.length ≤ 1000000) :
    Calls Try.prog 36 #[.pointer (some ⟨g, 0, none⟩), .int .u16 id] w fun e w' => e = .returned (.int .i64 k0) ∧ w = w' := by
  obtain ⟨v, h1, h2, _⟩ := h
  obtain ⟨a, c, e0, hR⟩ := h2.rd
  subst e0
  have c1 : w.cell? ⟨g, 1, none⟩ = some (.slice a L.length c) := by rw [h1.cell]; rfl
  have hR' := Lib.hid hR
  have hb := Lib.hid (lookI_before hd hk0 hy)
  have hy' := Lib.hid hy
  clear h1 h2 hR hy
  go_enter Try.func36, Try.ntmps36
  go_wp2_with fail
  go_loopw [5] (fun i wr => ∃ k : Nat, k ≤ k0 ∧ i = .int .i64 k ∧ w = wr) (fun i _ => L.length - (intOf i).toNat)
  case atStart => exact ⟨0, Nat.zero_le _, rfl, rfl⟩
  case round =>
    obtain ⟨k, hk, rfl, rfl⟩ := hrel
    have hkI : (k : Int) < L.length := by omega
    obtain ⟨b, o1, e1, _, hc⟩ := rd_open hR'.out (by omega)
    subst e1
    have hck := (hc k (by omega)).1
    clear hc
    by_cases hlt : k < k0
    · have hne : ((L[k]'(by omega)).1 == id) = false := by
        rw [beq_eq_false_iff_ne]
        exact hb.out k hlt
      generalize (L[k]'(by omega)).1 = x at *
      go_wp2_with fail
      go_roundw
      case rel => exact ⟨k + 1, by omega, by go_num, trivial⟩
      case measure => simp [intOf]; omega
    · have hk' : k = k0 := by omega
      subst hk'
      rw [hy'.out] at hck
      go_wp2_with fail
      go_ret
      exact ⟨rfl, rfl⟩
theorem src_open (w : World) (x y : Int) : Src Try.prog openE.k 74 (.slice (some ⟨w.heap.size, 0, none⟩) 1 1) 1 (rowOf openE [(x, y)]) (w.alloc (.cells #[.int .u16 x, .int .i64 y] 79)) :=
  (rd_blk (E := openE) (X := [(x, y)]) (Blk.new w 79 (0, 0) #[.int .u16 x, .int .i64 y]) 1 rfl (by decide)).src (P := Try.prog) (tx := 74) Try.underlying74
theorem ropen_there {w : World} {g : Nat} {o : Option Nat} {most : Int} {L : List (Int × Int)} (h : PipR w g o most L) {id key v : Int} (hv : lookI L id = some v) (hd : (ids L).Nodup) (hL : L.length ≤ 1000000) :
    Calls Try.prog 13 #[.pointer (some ⟨g, 0, none⟩), .int .u16 id, .int .i64 key] w fun e w' => e = .returned (.int .i64 10) ∧ w = w' := by
  obtain ⟨k, hk, e⟩ := lookI_some hv
  have hh := Lib.hid h
  have hk' := Lib.hid (show L[k].1 = id by rw [e])
  clear h e hv
  go_enter Try.func13, Try.ntmps13
  go_wp2_with fail
  refine (rat_some hh.out hk hk'.out hd hL).mono ?_
  rintro e w1 ⟨rfl, rfl⟩
  go_wp2_with fail
  go_ret
  exact ⟨rfl, rfl⟩
set_option maxHeartbeats 4000000 in
theorem ropen_full {w : World} {g : Nat} {o : Option Nat} {most : Int} {L : List (Int × Int)} (h : PipR w g o most L) {id key : Int} (hv : lookI L id = none) (hm : most ≤ (L.length : Int)) (hL : L.length ≤ 1000000) :
    Calls Try.prog 13 #[.pointer (some ⟨g, 0, none⟩), .int .u16 id, .int .i64 key] w fun e w' => e = .returned (.int .i64 14) ∧ w.drew = w' := by
  have hh := Lib.hid h
  obtain ⟨v, h1, h2, _⟩ := h
  obtain ⟨a, c, rfl⟩ := h2.shape
  have c0 : w.cell? ⟨g, 0, none⟩ = some (.int .i64 most) := by rw [h1.cell]; rfl
  have c1 : w.cell? ⟨g, 1, none⟩ = some (.slice a L.length c) := by rw [h1.cell]; rfl
  clear h1 h2
  go_enter Try.func13, Try.ntmps13
  go_wp2_with fail
  refine (rat_none hh.out hv hL).mono ?_
  rintro e w1 ⟨rfl, rfl⟩
  go_wp2_with fail
  go_region
  go_wp2_with fail
  go_ret
  exact ⟨rfl, rfl⟩
set_option maxHeartbeats 8000000 in
set_option maxRecDepth 100000 in
theorem ropen_ok {w : World} {g : Nat} {o : Option Nat} {most : Int} {L : List (Int × Int)} (h : PipR w g o most L) {id key : Int} (hv : lookI L id = none) (hm : (L.length : Int) < most) (hL : L.length ≤ 1000000) :
    Calls Try.prog 13 #[.pointer (some ⟨g, 0, none⟩), .int .u16 id, .int .i64 key] w fun e w' => e = .returned (.int .i64 0) ∧ ∃ o', PipR w' g o' most (L ++ [(id, key)]) ∧ NewO w o o' ∧ Tch (fr g o) w w' := by
  obtain ⟨i0, hi, hz0, hz1, hz2⟩ := info_parts info79p
  have hh := Lib.hid h
  obtain ⟨v, h1, h2, ho⟩ := h
  obtain ⟨a, c, rfl⟩ := h2.shape
  have c0 : w.cell? ⟨g, 0, none⟩ = some (.int .i64 most) := by rw [h1.cell]; rfl
  have c1 : w.cell? ⟨g, 1, none⟩ = some (.slice a L.length c) := by rw [h1.cell]; rfl
  have k4 : Below w.heap.size w (w.drew.alloc (.cells #[.int .u16 id, .int .i64 key] 79)) := (Below.refl _ _).drew.alloc (Nat.le_refl _) _
  have o4 := Lib.hid (h2.ext k4)
  have s4 := Lib.hid (src_open w.drew id key)
  have hsz4 : g + 1 ≤ (w.drew.alloc (.cells #[.int .u16 id, .int .i64 key] 79)).heap.size := by have := h1.lt; simp; omega
  have hB3 := Lib.hid h1
  have ho' := Lib.hid ho
  have hv' := Lib.hid hv
  clear h1 h2 ho hv
  go_enter Try.func13, Try.ntmps13
  go_wp2_with fail
  refine (rat_none hh.out hv'.out hL).mono ?_
  rintro e w1 ⟨rfl, rfl⟩
  go_wp2_with fail
  go_region
  go_wp2_with (at_builtin; refine app_own (E := openE) (news := [(id, key)]) rfl (.tmp 25) (.tmp 29) 74 74 rfl Try.underlying74 hi hz0 hz1 hz2 rfl rfl o4.out rfl s4.out ?c1 ?c2 hsz4 ?_)
  case c1 => simp [maxLen]; omega
  case c2 => simp; omega
  intro v5 w5 h5 hg5 hv5
  obtain ⟨a5, n5, c5, rfl⟩ : ∃ a n c, v5 = .slice a n c := by obtain ⟨a, c, e⟩ := h5.shape; exact ⟨_, _, _, e⟩
  have hB4 := hB3.out.below k4 hB3.out.lt
  have hB5 : Blk w5 g 76 (0, 0) [.int .i64 most, .slice a L.length c] := (hg5.block g hB4.lt (fun e => by have := (o4.out.lt g e.symm).1; omega)).trans hB4
  have d5 : w5.cell? ⟨g, 1, none⟩ = some (.slice a L.length c) := by rw [hB5.cell]; rfl
  have f5 : w5.frozen? ⟨g, 1, none⟩ = false := by rw [hB5.frozen]; simp
  have q7 : Hid (Tch (fr g o) w w5) := Lib.hid ((Tch.of_below k4).trans (Tch.of_grown (S := fr g o) hg5 (fun k hk => .inr (ho'.out ▸ hk))) (fun b _ h => h))
  have q5 := Lib.hid hB5
  have q8 := Lib.hid h5
  have q9 := Lib.hid hv5
  clear hB4 hB5 h5 hg5 hv5 k4
  go_wp2_with fail
  go_ret
  refine ⟨rfl, (Value.slice a5 n5 c5).ownBlock, ⟨.slice a5 n5 c5, q5.out.set 1 (.slice a5 n5 c5), ?_, rfl⟩, ?_, ?_⟩
  · exact q8.out.keep fun k hk => Below.heap_setCell _ _ _ _ (by have := (q8.out.lt k hk).1; show k ≠ g; omega)
  · intro k hk
    rcases q9.out with h | h
    · exact .inl (by rw [← ho'.out, ← h]; exact hk)
    · rw [h] at hk
      cases hk
      exact .inr (by simp)
  · exact q7.out.trans (Tch.setCell (S := fr g o) w5 (p := ⟨g, 1, none⟩) (.inl rfl) _) (fun b _ h => h)
end Go.Proofs.Ytmimbfikjnfhdaa
