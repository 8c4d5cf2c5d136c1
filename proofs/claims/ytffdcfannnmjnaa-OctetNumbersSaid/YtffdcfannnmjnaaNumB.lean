/- The verifier's kit: no list shares memory with another one: ApartBytes, over lists whose blocks are known. -/
import Derived.Test.YtffdcfannnmjnaaNumA
import Derived.Test.YtffdcfannnmjnaaRdrD
import Derived.Deep.RegionHeld3
namespace Go.Proofs.Ytffdcfannnmjnaa
open Go.RowKit
/-- a list of bytes: its block (none: it is nil), its length, all its bytes up to the capacity -/
abbrev Ap := Option Nat × Nat × List UInt8
def apV : Ap → Value
  | (none, _, _) => .slice none 0 0
  | (some g, n, X) => .slice (some ⟨g, 0, none⟩) n X.length
def apOk (w : World) (lo hi : Nat) : Ap → Prop
  | (none, _, X) => X = []
  | (some g, n, X) => Blk w g 5 (0, 0) (u8s X) ∧ n ≤ X.length ∧ X.length ≤ 140737488355328 ∧ lo ≤ g ∧ g < hi
def apF : Ap → Ap | (o, n, X) => (o, n, x5s X)
theorem apF_apF (p : Ap) : apF (apF p) = p := by obtain ⟨o, n, X⟩ := p; simp [apF, x5s_x5s]
theorem apV_apF (p : Ap) : apV (apF p) = apV p := by
  obtain ⟨o, n, X⟩ := p
  cases o <;> simp [apF, apV, x5s_length]
structure Aps (w : World) (lo hi : Nat) (L : List Ap) : Prop where
  all : ∀ (j : Nat) (p : Ap), L[j]? = some p → apOk w lo hi p
  apart : ∀ (i j : Nat) (p q : Ap) (g : Nat), L[i]? = some p → L[j]? = some q → p.1 = some g → q.1 = some g → i = j
theorem apOk.keep {w w' : World} {lo hi : Nat} {p : Ap} (h : apOk w lo hi p) (hb : ∀ k, k < hi → p.1 = some k → w'.heap[k]? = w.heap[k]?) : apOk w' lo hi p := by
  obtain ⟨o, n, X⟩ := p
  cases o with
  | none => exact h
  | some g => exact ⟨(hb g h.2.2.2.2 rfl).trans h.1, h.2⟩
theorem Aps.keep {w w' : World} {lo hi : Nat} {L : List Ap} (h : Aps w lo hi L) (hb : Below hi w w') : Aps w' lo hi L :=
  ⟨fun j p hp => (h.all j p hp).keep fun k hk _ => hb.block k hk, h.apart⟩
theorem cut_cap {P : Program} (a : Option Addr) (n c : Nat) (t e : TypeId) (ht : P.underlying t = some (.slice e)) (k : Nat) (hs : (P.info? e).map (·.size) = some k) : ∀ u, (Instr.slice t (.slice a n c) none (some (.int .i64 c)) none).run P u = .ok (.slice a c c) u := fun u => by
  have ee := elem_of ht
  rw [run_slice_h u t a n c (by rw [ee]; exact ht) .i64 c (by omega) (by omega), ee, run_sizeOf_info hs]
  simp [Result.andThen, sliced]
  intro _
  cases a with
  | none => rfl
  | some x => exact congrArg some (by unfold Addr.add; simp)
theorem ap_shape (p : Ap) : ∃ a n c, apV p = .slice a n c ∧ ∀ w lo hi, apOk w lo hi p → n ≤ c ∧ c ≤ 140737488355328 ∧ Rd byteE w a c c p.2.2 := by
  obtain ⟨o, n, X⟩ := p
  cases o with
  | none =>
    refine ⟨none, 0, 0, rfl, fun w lo hi h => ⟨Nat.le_refl _, by omega, ?_⟩⟩
    have : X = [] := h
    subst this; exact Rd.nil _ _
  | some g => exact ⟨_, n, X.length, rfl, fun w lo hi h => ⟨h.2.1, h.2.2.1, rd_blk (E := byteE) (by rw [rowOf_byte]; exact h.1) _ rfl (Nat.le_trans h.2.2.1 (by decide))⟩⟩
/-- one list is written over -/
theorem over_aps {w : World} {lo hi : Nat} {L : List Ap} (h : Aps w lo hi L) {i : Nat} {p : Ap} (hp : L[i]? = some p) :
    Calls Try.prog 42 #[apV p] w fun e w' => e = .returned (.tuple #[]) ∧ Aps w' lo hi (L.set i (apF p)) ∧ ∃ r, w.grownBy w' r ∧ ∀ k, r = some k → lo ≤ k ∧ k < hi := by
  have hk := h.all i p hp
  have hil : i < L.length := (List.getElem?_eq_some_iff.1 hp).1
  obtain ⟨o, n, X⟩ := p
  cases o with
  | none =>
    have : X = [] := hk
    subst this
    refine (over_none (w := w) none).mono fun e w' he => ?_
    obtain ⟨rfl, rfl⟩ := he
    refine ⟨rfl, ?_, none, grown_refl _ _, fun k hk => by cases hk⟩
    have : L.set i (apF (none, n, [])) = L := by
      apply List.ext_getElem?
      intro j
      by_cases hj : i = j
      · subst hj; rw [List.getElem?_set_self hil, hp]; rfl
      · rw [List.getElem?_set_ne hj]
    rw [this]; exact h
  | some g =>
    obtain ⟨hB, h1, h2, h3, h4⟩ := hk
    refine (over_bytes (w := w) (b := g) (o := 0) (n := n) (c := X.length) (C1 := []) (C2 := []) (X := X) (fz := (0, 0)) (by simpa using hB) rfl rfl h1 (by omega) (fun j hj => by omega)).mono fun e w' he => ?_
    obtain ⟨rfl, hB2, hgr⟩ := he
    refine ⟨rfl, ⟨fun j q hq => ?_, fun a b q1 q2 k ha hb e1 e2 => ?_⟩, some g, hgr, fun k hk => by cases hk; exact ⟨h3, h4⟩⟩
    · by_cases hj : i = j
      · subst hj
        rw [List.getElem?_set_self hil] at hq
        cases hq
        exact ⟨by simpa using hB2, by rw [x5s_length]; exact h1, by rw [x5s_length]; exact h2, h3, h4⟩
      · rw [List.getElem?_set_ne hj] at hq
        refine (h.all j q hq).keep fun k hk e => ?_
        refine hgr.block k ?_ (fun e' => hj ?_)
        · have := h.all j q hq
          obtain ⟨o', n', X'⟩ := q
          simp only at e
          subst e
          exact this.1.lt
        · simp at e'
          subst e'
          exact h.apart i j _ q k hp hq rfl e
    · have f : ∀ (a : Nat) (q : Ap), (L.set i (apF (some g, n, X)))[a]? = some q → ∃ q0, L[a]? = some q0 ∧ q0.1 = q.1 := fun a q hq => by
        by_cases hj : i = a
        · subst hj
          rw [List.getElem?_set_self hil] at hq
          cases hq
          exact ⟨_, hp, rfl⟩
        · rw [List.getElem?_set_ne hj] at hq; exact ⟨q, hq, rfl⟩
      obtain ⟨r1, hr1, f1⟩ := f a q1 ha
      obtain ⟨r2, hr2, f2⟩ := f b q2 hb
      exact h.apart a b r1 r2 k hr1 hr2 (f1.trans e1) (f2.trans e2)
theorem own_set {w : World} {base g : Nat} {v u : Value} {l : List UInt8} (h : Own byteE w base v l) (hg : g < base) (j : Nat) : Own byteE (w.setCell ⟨g, j, none⟩ u) base v l :=
  h.keep fun k hk => Below.heap_setCell _ _ _ _ (by have := (h.lt k hk).1; show k ≠ g; omega)
/-- what has been copied of the first k lists -/
def Was (w : World) (gw : Nat) (L : List Ap) (C : List Value) (k : Nat) : Prop := ∀ (j : Nat) (p : Ap), j < k → L[j]? = some p → ∃ v, C[j]? = some v ∧ Own byteE w (gw + 1) v p.2.2
set_option maxHeartbeats 8000000 in
set_option maxRecDepth 100000 in
theorem apart_any {w : World} {lo hi gl : Nat} {L : List Ap} (hA : Aps w lo hi L) (hG : Blk w gl 27 (0, 0) (L.map apV)) (hgl : hi ≤ gl) (hlo : lo ≤ gl) (hN : L.length ≤ 100) :
    Calls Try.prog 32 #[.slice (some ⟨gl, 0, none⟩) L.length L.length] w fun e w' => e = .returned (.bool true) ∧ Below lo w w' := by
  obtain ⟨i0, hi0, hz0, hz1, hz2⟩ := info_parts (show (Try.prog.info? 27).map (fun i => (i.zero, i.size, i.bytes)) = some (some (.slice none 0 0), 1, 24) by kernel_rfl)
  have hmk : ∀ u : World, (Instr.makeSlice 41 (.int .i64 (L.length : Int)) (.int .i64 (L.length : Int))).run Try.prog u =
      .ok (.slice (some ⟨u.heap.size, 0, none⟩) L.length L.length) (u.alloc (.cells (madeCells #[.slice none 0 0] L.length) 27)) := fun u => by
    have h := run_make (P := Try.prog) u 41 27 i0 (.slice none 0 0) Try.underlying41 hi0 hz0 .i64 .i64 (L.length : Int) (L.length : Int) (by omega) (Int.le_refl _) (by rw [hz2]; omega) (by omega)
    rw [Int.toNat_natCast] at h
    simpa [hz1, Value.cells] using h
  have hA := Lib.hid hA
  have hG := Lib.hid hG
  generalize hNN : L.length = N at *
  have hNh := Lib.hid hNN
  clear hNN
  go_enter Try.func32, Try.ntmps32
  go_wp2_with fail
  go_loopw [3] (fun iv wr => ∃ i : Nat, i ≤ N ∧ iv = .int .i64 i ∧ Hid (Aps wr lo hi L) ∧ Hid (Blk wr gl 27 (0, 0) (L.map apV)) ∧ Below lo w wr)
    (fun iv _ => N - (intOf iv).toNat)
  case atStart => exact ⟨0, Nat.zero_le _, rfl, hA, hG, Below.refl _ _⟩
  case round =>
    clear hA hG
    obtain ⟨i, hi1, rfl, hA, hG, hb⟩ := hrel
    by_cases hlt : i < N
    · go_wp2_with fail
      have hBw := Blk.new wr 27 (0, 0) (madeCells #[.slice none 0 0] N)
      rw [madeCells_one] at hBw
      have hbn : Below wr.heap.size wr (wr.alloc (.cells (madeCells #[.slice none 0 0] N) 27)) := (Below.refl _ _).alloc (Nat.le_refl _) _
      have hglw : gl < wr.heap.size := hG.out.lt
      have hgsz : wr.heap.size < (wr.alloc (.cells (madeCells #[.slice none 0 0] N) 27)).heap.size := by simp
      generalize hW1 : wr.alloc (.cells (madeCells #[.slice none 0 0] N) 27) = w1 at *
      have hA1 : Hid (Aps w1 lo hi L) := Lib.hid (hA.out.keep (hbn.mono (by omega)))
      have hG1 : Hid (Blk w1 gl 27 (0, 0) (L.map apV)) := Lib.hid (hG.out.below hbn hglw)
      have hb1 : Below lo w w1 := hb.trans (hbn.mono (by omega))
      have hBw' := Lib.hid hBw
      generalize hgw : wr.heap.size = gw at *
      clear hW1 hBw hA hG hb hbn hgw hmk
      go_loopw [5] (fun kv wq => ∃ k : Nat, k ≤ N ∧ kv = .int .i64 k ∧ Hid (Aps wq lo hi L) ∧ Hid (Blk wq gl 27 (0, 0) (L.map apV)) ∧ (∃ C : List Value, C.length = N ∧ Hid (Blk wq gw 27 (0, 0) C) ∧ Hid (Was wq gw L C k)) ∧ Below lo w wq ∧ gw < wq.heap.size)
        (fun kv _ => N - (intOf kv).toNat)
      case atStart => exact ⟨0, Nat.zero_le _, rfl, hA1, hG1, ⟨_, by simp, hBw', Lib.hid fun j p h => (by omega)⟩, hb1, hgsz⟩
      case round =>
        clear hA1 hG1 hBw' hb1 hgsz
        obtain ⟨k, hk, rfl, hA, hG, ⟨C, hC, hBw, hWas⟩, hb, hgsz⟩ := hrel
        by_cases hkl : k < N
        · obtain ⟨p, hp⟩ : ∃ p, L[k]? = some p := ⟨_, List.getElem?_eq_getElem (by have := hNh.out; omega)⟩
          obtain ⟨a, n, c, hv, hsh⟩ := ap_shape p
          obtain ⟨h1, h2, hr⟩ := hsh wr lo hi (hA.out.all k p hp)
          have hcell : wr.cell? ⟨gl, k, none⟩ = some (.slice a n c) := by rw [hG.out.cell, List.getElem?_map, hp, ← hv]; rfl
          have hcut := cut_cap (P := Try.prog) a n c 27 5 Try.underlying27 1 (by kernel_rfl)
          have hr' : Hid (Rd byteE wr.drew a c c p.2.2) := Lib.hid (hr.ext ((Below.refl _ _).drew))
          have hkI : (k : Int) < N := by omega
          have hC' := Lib.hid hC
          have hp' := Lib.hid hp
          clear hr hsh hC hp hv
          go_wp2_with fail
          go_region_held3 (fun w' => w'.cell? ⟨gl, k, none⟩ = some (.slice a n c))
            (first | exact hcell | exact s3 | exact s4)
            (first | (go_at_call 41; refine (copy_bytes hr'.out (by omega)).mono ?_; rintro e w3 ⟨⟨v3, rfl, ho3⟩, hb3⟩; obtain ⟨a3, c3, hv3⟩ := ho3.shape; subst hv3; have ho4 := Lib.hid ho3; have hb4 : Below wr.heap.size wr w3 := Below.trans ((Below.refl _ wr).drew) (hb3.mono (Nat.le_refl _)); have s3 : w3.cell? ⟨gl, k, none⟩ = some (.slice a n c) := (hb4.cell (p := ⟨gl, k, none⟩) (by show gl < _; omega)).trans hcell; have hBw3 : Hid (Blk w3 gw 27 (0, 0) C) := Lib.hid (hBw.out.below hb4 hgsz); have hcw : w3.cell? ⟨gw, k, none⟩ = some (C[k]'(by have := hC'.out; omega)) := (by rw [hBw3.out.cell]; exact List.getElem?_eq_getElem _); have hfw : w3.frozen? ⟨gw, k, none⟩ = false := (by rw [hBw3.out.frozen]; simp); have s4 : (w3.setCell ⟨gw, k, none⟩ (.slice a3 p.2.2.length c3)).cell? ⟨gl, k, none⟩ = some (.slice a n c) := (World.cell?_setCell_far w3 ⟨gw, k, none⟩ ⟨gl, k, none⟩ _ (by show gw ≠ gl; omega)).trans s3; clear ho3 hb3))
          have hbs : Below gw w3 (w3.setCell ⟨gw, k, none⟩ (.slice a3 p.2.2.length c3)) := (Below.refl _ _).setCell (p := ⟨gw, k, none⟩) (Nat.le_refl _) _
          have hA5 : Hid (Aps (w3.setCell ⟨gw, k, none⟩ (.slice a3 p.2.2.length c3)) lo hi L) := Lib.hid ((hA.out.keep (hb4.mono (by omega))).keep (hbs.mono (by omega)))
          have hG5 : Hid (Blk (w3.setCell ⟨gw, k, none⟩ (.slice a3 p.2.2.length c3)) gl 27 (0, 0) (L.map apV)) := Lib.hid ((hG.out.below hb4 (by omega)).below hbs hglw)
          have hB5 := Lib.hid (hBw3.out.set k (.slice a3 p.2.2.length c3))
          have hb5 : Below lo w (w3.setCell ⟨gw, k, none⟩ (.slice a3 p.2.2.length c3)) := (hb.trans (hb4.mono (by have := hb.size; omega))).trans (hbs.mono (by omega))
          have hW5 : Hid (Was (w3.setCell ⟨gw, k, none⟩ (.slice a3 p.2.2.length c3)) gw L (C.set k (.slice a3 p.2.2.length c3)) (k + 1)) := Lib.hid fun j q hj hq => by
            by_cases e : j = k
            · subst e
              have := hq.symm.trans hp'.out
              cases this
              exact ⟨_, List.getElem?_set_self (by have := hC'.out; omega), own_set (ho4.out.mono (show gw + 1 ≤ wr.heap.size by omega)) (by omega) _⟩
            · obtain ⟨v, hv1, hv2⟩ := hWas.out j q (by omega) hq
              refine ⟨v, by rw [List.getElem?_set_ne (by omega)]; exact hv1, own_set (hv2.ext hb4) (by omega) _⟩
          have hsz5 : gw < (w3.setCell ⟨gw, k, none⟩ (.slice a3 p.2.2.length c3)).heap.size := by have := hb4.size; simp; omega
          have hC5 : (C.set k (.slice a3 p.2.2.length c3)).length = N := by rw [List.length_set]; exact hC'.out
          clear hbs
          go_wp2_with fail
          go_roundw
          case rel => exact ⟨k + 1, by omega, by go_num, hA5, hG5, ⟨_, hC5, hB5, hW5⟩, hb5, hsz5⟩
          case measure => simp [intOf]; omega
        · have hk' : k = N := by omega
          subst hk'
          obtain ⟨p, hp⟩ : ∃ p, L[i]? = some p := ⟨_, List.getElem?_eq_getElem (by have := hNh.out; omega)⟩
          have hcell : wr.cell? ⟨gl, i, none⟩ = some (apV p) := by rw [hG.out.cell, List.getElem?_map, hp]; rfl
          have hp' := Lib.hid hp
          have hC' := Lib.hid hC
          have hiI : (i : Int) < k := by omega
          clear hp hC
          go_wp2_with fail
          refine (over_aps hA.out hp'.out).mono ?_
          rintro e w3 ⟨rfl, hA3, r3, hg3, hr3⟩
          have hA3' := Lib.hid hA3
          have ne3 : ∀ b, hi ≤ b → some b ≠ r3 := fun b hb e => by have := (hr3 b e.symm).2; omega
          have hG3 : Hid (Blk w3 gl 27 (0, 0) (L.map apV)) := Lib.hid ((hg3.block gl (by omega) (ne3 gl hgl)).trans hG.out)
          have hB3 : Hid (Blk w3 gw 27 (0, 0) C) := Lib.hid ((hg3.block gw hgsz (ne3 gw (by omega))).trans hBw.out)
          have hb3 : Below lo w w3 := hb.grown hg3 (by omega) fun b e => (hr3 b e).1
          have hW3 : Hid (Was w3 gw L C k) := Lib.hid fun j q hj hq => by
            obtain ⟨v, hv1, hv2⟩ := hWas.out j q hj hq
            exact ⟨v, hv1, hv2.keep fun b hb => hg3.block b (hv2.lt b hb).2 (ne3 b (by have := (hv2.lt b hb).1; omega))⟩
          have hsz3 : gw < w3.heap.size := Nat.lt_of_lt_of_le hgsz hg3.size
          clear hA3 hg3 hr3 ne3 hA hG hBw hWas hb hgsz hcell
          go_wp2_with fail
          go_loopw [6] (fun kv wq => ∃ m : Nat, m ≤ k ∧ kv = .int .i64 m ∧ Hid (Aps wq lo hi (L.set i (apF p))) ∧ Hid (Blk wq gl 27 (0, 0) (L.map apV)) ∧ Hid (Blk wq gw 27 (0, 0) C) ∧ Hid (Was wq gw L C k) ∧ Below lo w wq ∧ gw < wq.heap.size)
            (fun kv _ => k - (intOf kv).toNat)
          case atStart => exact ⟨0, Nat.zero_le _, rfl, hA3', hG3, hB3, hW3, hb3, hsz3⟩
          case round =>
            clear hA3' hG3 hB3 hW3 hb3 hsz3
            obtain ⟨m, hm, rfl, hA, hG, hBw, hWas, hb, hgsz⟩ := hrel
            by_cases hml : m < k
            · have hmI : (m : Int) < k := by omega
              by_cases hmi : m = i
              · subst hmi
                go_wp2_with fail
                go_region
                go_wp2_with fail
                go_roundw
                case rel => exact ⟨m + 1, by omega, by go_num, Lib.hid (hA.out.keep ((Below.refl _ _).drew)), Lib.hid hG.out.drew, Lib.hid hBw.out.drew, Lib.hid fun j q hj hq => (by
                  obtain ⟨v, hv1, hv2⟩ := hWas.out j q hj hq
                  exact ⟨v, hv1, hv2.ext ((Below.refl _ _).drew)⟩), hb.drew, hgsz⟩
                case measure => simp [intOf]; omega
              · obtain ⟨q, hq⟩ : ∃ q, L[m]? = some q := ⟨_, List.getElem?_eq_getElem (by have := hNh.out; omega)⟩
                have hq2 : (L.set i (apF p))[m]? = some q := by rw [List.getElem?_set_ne (by omega)]; exact hq
                obtain ⟨a, n, c, hv, hsh⟩ := ap_shape q
                obtain ⟨h1, h2, hr⟩ := hsh wr lo hi (hA.out.all m q hq2)
                have hcell : wr.cell? ⟨gl, m, none⟩ = some (.slice a n c) := by rw [hG.out.cell, List.getElem?_map, hq, ← hv]; rfl
                have hcut := cut_cap (P := Try.prog) a n c 27 5 Try.underlying27 1 (by kernel_rfl)
                have hr' : Hid (Rd byteE wr.drew a c c q.2.2) := Lib.hid (hr.ext ((Below.refl _ _).drew))
                obtain ⟨v, hv1, hv2⟩ := hWas.out m q hml hq
                obtain ⟨a5, c5, hv5, hr5⟩ := hv2.rd
                subst hv5
                have hcell2 : wr.cell? ⟨gw, m, none⟩ = some (.slice a5 q.2.2.length c5) := by rw [hBw.out.cell]; exact hv1
                have hr5' : Hid (Rd byteE wr.drew a5 q.2.2.length c5 q.2.2) := Lib.hid (hr5.ext ((Below.refl _ _).drew))
                have hneq : ((m : Int) == (i : Int)) = false := by rw [beq_cast]; simp [hmi]
                have hneq2 : ((m : Int) != (i : Int)) = true := by unfold bne; rw [hneq]; rfl
                have hneq3 : (m == i) = false := by simp [hmi]
                have hneq4 : (m != i) = true := by simp [hmi]
                clear hr hsh hq hq2 hv hr5 hv1 hv2
                go_wp2_with fail
                go_region_held3 (fun w' => w'.cell? ⟨gl, m, none⟩ = some (.slice a n c) ∧ w'.cell? ⟨gw, m, none⟩ = some (.slice a5 q.2.2.length c5))
                  (first | exact ⟨hcell, hcell2⟩)
                  (first | (go_at_call 29; refine (same_bytes hr'.out hr5'.out).mono ?_; rw [beq_self_eq_true]; rintro e w5 ⟨rfl, rfl⟩))
                go_wp2_with fail
                go_roundw
                case rel => exact ⟨m + 1, by omega, by go_num, Lib.hid (hA.out.keep ((Below.refl _ _).drew)), Lib.hid hG.out.drew, Lib.hid hBw.out.drew, Lib.hid fun j q hj hq => (by
                  obtain ⟨v, hv1, hv2⟩ := hWas.out j q hj hq
                  exact ⟨v, hv1, hv2.ext ((Below.refl _ _).drew)⟩), hb.drew, hgsz⟩
                case measure => simp [intOf]; omega
            · have hk' : m = k := by omega
              subst hk'
              have hp2 : (L.set i (apF p))[i]? = some (apF p) := List.getElem?_set_self (by have := hNh.out; omega)
              have hcell : wr.cell? ⟨gl, i, none⟩ = some (apV (apF p)) := by rw [hG.out.cell, List.getElem?_map, hp'.out, apV_apF]; rfl
              have hback : (L.set i (apF p)).set i (apF (apF p)) = L := by
                rw [List.set_set, apF_apF]
                apply List.ext_getElem?
                intro j
                by_cases hj : i = j
                · subst hj; rw [List.getElem?_set_self (by have := hNh.out; omega), hp'.out]
                · rw [List.getElem?_set_ne hj]
              have hp2' := Lib.hid hp2
              have hback' := Lib.hid hback
              clear hp2 hback
              go_wp2_with fail
              refine (over_aps hA.out hp2'.out).mono ?_
              rw [hback'.out]
              rintro e w5 ⟨rfl, hA5, r5, hg5, hr5⟩
              have hA5' := Lib.hid hA5
              have ne5 : ∀ b, hi ≤ b → some b ≠ r5 := fun b hb e => by have := (hr5 b e.symm).2; omega
              have hG5 : Hid (Blk w5 gl 27 (0, 0) (L.map apV)) := Lib.hid ((hg5.block gl (by omega) (ne5 gl hgl)).trans hG.out)
              have hb5 : Below lo w w5 := hb.grown hg5 (by omega) fun b e => (hr5 b e).1
              clear hA5 hg5 hr5 ne5
              go_wp2_with fail
              go_roundw
              case rel => exact ⟨i + 1, by omega, by go_num, hA5', hG5, hb5⟩
              case measure => simp [intOf]; omega
    · have hk' : i = N := by omega
      subst hk'
      go_wp2_with fail
      go_ret
      exact ⟨rfl, hb⟩
end Go.Proofs.Ytffdcfannnmjnaa
