/- put 42: the fresh tails are kept, whatever order they come in. -/
import Derived.Test.YtndpebhhgicooaaWrA
import Derived.Maps.RangeWalk
namespace Go.Proofs.Ytndpebhhgicooaa
open Go Go.RowKit Go.Maps Go.WideShapes
theorem key9 : Keyed Try.prog 9 := string_keyed Try.underlying9
/-- the fresh ones over the others -/
def over (f2 f : List UInt8 → Option Int) (x : List UInt8) : Option Int := match f2 x with
  | some v => some v
  | none => f x
theorem Wr.eqf {w : World} {lo g : Nat} {B : List UInt8} {nm : Nat} {f f' : List UInt8 → Option Int} {a : Option Addr} {c mb : Nat} (h : Wr w lo g B nm f a c mb) (he : ∀ x, kS.ok x → f x = f' x) : Wr w lo g B nm f' a c mb :=
  ⟨h.blk, h.own, h.map.eq he, h.low, h.lowm, h.gm, h.ga⟩
theorem Wr.keep {w w' : World} {lo g : Nat} {B : List UInt8} {nm : Nat} {f : List UInt8 → Option Int} {a : Option Addr} {c mb : Nat} (h : Wr w lo g B nm f a c mb) (hk : ∀ k, k < w.heap.size → (k = g ∨ k = mb ∨ (Value.slice a B.length c).ownBlock = some k) → w'.heap[k]? = w.heap[k]?) : Wr w' lo g B nm f a c mb :=
  ⟨(hk g h.blk.lt (.inl rfl)).trans h.blk, h.own.keep (fun k hk' => hk k (h.own.lt k hk').2 (.inr (.inr hk'))), h.map.keep (hk mb h.map.lt (.inr (.inl rfl))), h.low, h.lowm, h.gm, h.ga⟩
theorem Wr.lts {w : World} {lo g : Nat} {B : List UInt8} {nm : Nat} {f : List UInt8 → Option Int} {a : Option Addr} {c mb : Nat} (h : Wr w lo g B nm f a c mb) : ∀ k, (k = g ∨ k = mb ∨ (Value.slice a B.length c).ownBlock = some k) → k < w.heap.size := by
  rintro k (rfl | rfl | hk)
  · exact h.blk.lt
  · exact h.map.lt
  · exact (h.own.lt k hk).2
theorem key_str {x : List UInt8} {kl : Lit} (h : keyOf Try.prog 9 (.string (mk x)) = some kl) : kS.ok x ∧ kl = kS.l x := by
  obtain ⟨s9, e, rfl, hs⟩ := Go.WideMaps.string_of_keyOf Try.underlying9 h
  cases e
  exact ⟨by rw [size_mk] at hs; exact hs, rfl⟩
/-- what is known while those of left are still to come -/
noncomputable def curF (left : Lit → Bool) (f2 f : List UInt8 → Option Int) (x : List UInt8) : Option Int := if left (kS.l x) = true then f x else over f2 f x
set_option maxHeartbeats 4000000 in
set_option maxRecDepth 100000 in
theorem wr_put {w : World} {lo g : Nat} {B : List UInt8} {nm : Nat} {f : List UInt8 → Option Int} {a : Option Addr} {c mb : Nat} (h : Wr w lo g B nm f a c mb) {ax : Option Addr} {n cx : Nat} {X : List UInt8} (hX : Rd byteE w ax n cx X) (hr : B.length + n ≤ 65535) (hlo : lo ≤ w.heap.size)
    {fb nf : Nat} {f2 : List UInt8 → Option Int} (hF : Mp kS 3 .i64 w fb nf f2) (hne : fb ≠ mb) (hfo : ∀ k, (Value.slice a B.length c).ownBlock = some k → k ≠ fb) (hnm : nm + nf < 1000000) :
    Calls Try.prog 42 #[.pointer (some ⟨g, 0, none⟩), .slice ax n cx, .map (some fb)] w fun e w' => e = .returned (.int .i64 0) ∧ (∃ a' c', Wr w' lo g (B ++ X) (nm + nf) (over f2 f) a' c' mb) ∧ Tch (fun k => k = g ∨ k = mb ∨ (Value.slice a B.length c).ownBlock = some k) w w' := by
  have hh := Lib.hid h
  have hX' := Lib.hid hX
  have hF' := Lib.hid hF
  have hfo' := Lib.hid hfo
  clear h hX hF hfo
  go_enter Try.func42, Try.ntmps42
  go_wp2_with fail
  refine (wr_bytes hh.out hX'.out hr hlo).mono ?_
  rintro e w1 ⟨rfl, ⟨a1, c1, hW1⟩, hT1⟩
  have hfg : fb ≠ g := (hF'.out).notBlk hh.out.blk
  have hF1 := hF'.out.tch hT1 (fun e => by rcases e with e | e; exact hfg e; exact hfo'.out _ e rfl)
  have hW1' := Lib.hid hW1
  have hT1' := Lib.hid hT1
  obtain ⟨D, hown, hD⟩ := hF1
  have hsl := hown.size_le
  have hD' := Lib.hid hD
  have hsl' := Lib.hid hsl
  have hz1 := Lib.hid hT1.size
  clear hW1 hT1 hD hsl
  go_wp2_with (at_range; refine wpList_range_own _ rfl (.tmp 16) 58 rfl 9 3 key9 Try.underlying58 (plainElem Try.prog 3) fb nf D rfl hown ?_; intro w2 hrg2 hg2 hs2)
  have hS2 : Hid (Tch (fun k => k = g ∨ k = mb ∨ (Value.slice a B.length c).ownBlock = some k) w w2) := Lib.hid ((hT1'.out.mono (fun b _ h => by rcases h with h | h; exact .inl h; exact .inr (.inr h))).trans (Tch.of_grown (S := fun _ => False) hg2 (fun k hk => by cases hk)) (fun _ _ h => h.elim))
  have hW2 : Hid (Wr w2 lo g (B ++ X) nm (curF (Maps.has D) f2 f) a1 c1 mb) := Lib.hid ((hW1'.out.keep (fun k hk _ => hg2.block k hk (fun e => by cases e))).eqf (fun x hx => by
    unfold curF over
    rcases hD'.out x hx with ⟨q1, q2⟩ | ⟨v, q1, q2, _⟩
    · rw [if_neg (by rw [q2]; decide), q1]
    · rw [if_pos q2]))
  have hlts := Lib.hid hW1'.out.lts
  have hrg2' := Lib.hid hrg2
  have hfl := Lib.hid hown.lt
  have hgm := Lib.hid hW1'.out.gm
  have hga := Lib.hid hW1'.out.ga
  clear hrg2 hown hg2 hT1' hW1'
  go_frame
  go_loopw [8] (fun _ wr => ∃ left cnt m, Hid (wr.ranges Try.prog 9 (plainElem Try.prog 3) fb w1.heap.size nf D left cnt) ∧ Hid (Wr wr lo g (B ++ X) m (curF left f2 f) a1 c1 mb) ∧ m + cnt ≤ nm + nf ∧ Hid (Tch (fun k => k = g ∨ k = mb ∨ (Value.slice a B.length c).ownBlock = some k) w wr)) (fun _ wr => wr.rangeLeft fb w1.heap.size)
  case atStart => exact ⟨_, _, nm, hrg2', hW2, by have := hsl'.out; omega, hS2⟩
  case round =>
    obtain ⟨left, cnt, m, hrg, hW, hm, hT⟩ := hrel
    clear hrg2' hW2 hS2 hs2
    go_wp2_with (at_next; refine wpList_next_ranges _ rfl (.tmp 17) rfl 9 key9 (plainElem Try.prog 3) (fun x : List UInt8 => Value.string (mk x)) (Value.int .i64) (fun key kl hkey => by obtain ⟨s9, rfl, _, _⟩ := Go.WideMaps.string_of_keyOf Try.underlying9 hkey; exact ⟨bs s9, by rw [mk_bs]⟩) (fun v y hv => by obtain ⟨c9, rfl, _⟩ := plainElem_int_inv Try.underlying3 hv; exact ⟨c9, rfl⟩) fb w1.heap.size nf D _ _ rfl hrg.out ?_ ?_)
    · intro hc0 hl0
      have hWf : Hid (Wr wr lo g (B ++ X) (nm + nf) (over f2 f) a1 c1 mb) := Lib.hid (by
        have h1 := hW.out.eqf (f' := over f2 f) (fun x hx => by unfold curF; rw [if_neg (by rw [hl0]; decide)])
        exact ⟨h1.blk, h1.own, h1.map.mono (by omega), h1.low, h1.lowm, h1.gm, h1.ga⟩)
      go_wp2_with fail
      go_ret
      exact ⟨rfl, ⟨a1, c1, hWf.out⟩, hT.out⟩
    · intro x v kl yd yp w7 cnt7 hkey hlx hR hat hrg7 hlt7 hg7 hs7 hen
      obtain ⟨hok, rfl⟩ := key_str hkey
      obtain ⟨v', ev, ez, hwv⟩ := plainElem_int_inv Try.underlying3 hR
      cases ev
      cases ez
      have hf2 : f2 x = some v := by
        rcases hD'.out x hok with ⟨_, q⟩ | ⟨u, q1, q2, q3⟩
        · have := hat .nil
          rw [atKey_of_not_has q] at this
          cases this
        · have := (hat .nil).symm.trans (q3 .nil)
          simp at this
          rw [q1, this]
      have hW7 := hW.out.keep (w' := w7) (fun k hk hkk => hg7.block k hk (fun e => by have := hlts.out k hkk; have := Option.some.inj e; omega))
      have hcn : cnt7 < cnt := hlt7
      obtain ⟨w8, hrun, hM8, hg8, hs8⟩ := hW7.map.store Try.underlying58 Try.underlying3 (by unfold maxLen; omega) hok hwv
      have hrun' : (Instr.mapUpdate 58 (.map (some mb)) (.string (mk x)) (.int .i64 v)).run Try.prog w7 = .ok () w8 := hrun
      have hW8 : Wr w8 lo g (B ++ X) (m + 1) (curF (fun z => left z && !z.sameKey (kS.l x)) f2 f) a1 c1 mb := by
        refine Wr.eqf (f := fun y => if y = x then some v else curF left f2 f y) ⟨(hg8.block g hW7.blk.lt (fun e => hgm.out (Option.some.inj e).symm)).trans hW7.blk, hW7.own.keep (fun k hk => hg8.block k (hW7.own.lt k hk).2 (fun e => (hga.out k hk).2 (Option.some.inj e))), hM8, hW7.low, hW7.lowm, hW7.gm, hW7.ga⟩ (fun y hy => ?_)
        unfold curF
        by_cases hyx : y = x
        · subst hyx
          have e1 : (kS.l y).sameKey (kS.l y) = true := by simp [kS, strKey, Lit.sameKey]
          simp [e1, over, hf2]
        · have e1 : (kS.l y).sameKey (kS.l x) = false := by simp [kS, strKey, Lit.sameKey, hyx]
          simp [hyx, e1]
      have hrg8 := hrg7.kept (w' := w8) hg8 (fun e => hne (Option.some.inj e)) (fun e => by have := Option.some.inj e; have := hlts.out mb (.inr (.inl rfl)); omega)
      have hT7 : Tch (fun k => k = g ∨ k = mb ∨ (Value.slice a B.length c).ownBlock = some k) w w7 := hT.out.trans (Tch.of_grown (S := fun k => k = w1.heap.size) hg7 (fun k hk => (Option.some.inj hk).symm)) (fun b hb e => by have := hz1.out; omega)
      have hT8 : Tch (fun k => k = g ∨ k = mb ∨ (Value.slice a B.length c).ownBlock = some k) w w8 := hT7.trans (Tch.of_grown (S := fun k => k = mb) hg8 (fun k hk => (Option.some.inj hk).symm)) (fun b hb e => .inr (.inl e))
      have hmeas : w8.rangeLeft fb w1.heap.size < wr.rangeLeft fb w1.heap.size := by rw [hrg8.left_eq, hrg.out.left_eq]; exact hcn
      have cg : w7.cell? ⟨g, 1, none⟩ = some (.map (some mb)) := (hW7.blk.cell 1).trans rfl
      have hrg9 := Lib.hid hrg8
      have hW9 := Lib.hid hW8
      have hT9 := Lib.hid hT8
      have hmeas' := Lib.hid hmeas
      clear hrun hrg8 hW8 hT8 hT7 hmeas hM8 hg8 hs8 hW7 hrg7 hg7 hf2 hlx hR hat hlt7
      go_wp2_with fail
      go_roundw
      case rel => exact ⟨_, cnt7, m + 1, hrg9, hW9, by omega, hT9⟩
      case measure => exact hmeas'.out
end Go.Proofs.Ytndpebhhgicooaa
