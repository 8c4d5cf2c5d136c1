/- OctetReader: the walk. -/
import Derived.Test.YtffdcfannnmjnaaRdrF
import Derived.Test.YtffdcfannnmjnaaOpenB
namespace Go.Proofs.Ytffdcfannnmjnaa
open Go.RowKit
def askE : Enc (Int × Int) := ⟨63, 2, fun p => [.int .u8 p.1, .int .i64 p.2], (0, 0), fun _ => rfl, fun x v hv => by simp at hv; rcases hv with rfl | rfl <;> rfl, by decide⟩
theorem rd_ask {w : World} {a : Option Addr} {n c : Nat} {l : List (Int × Int)} (h : Rd askE w a n c l) (h0 : 0 < n) : ∃ b o, a = some ⟨b, o, none⟩ ∧ ∀ j (hj : j < l.length), w.cell? ⟨b, o + j * 2, none⟩ = some (.int .u8 l[j].1) ∧ w.cell? ⟨b, o + j * 2 + 1, none⟩ = some (.int .i64 l[j].2) := by
  obtain ⟨b, o, h1, _, h2⟩ := h.addr h0
  refine ⟨b, o, h1, fun j hj => ⟨?_, ?_⟩⟩
  · have := h2 j hj 0 (by decide); simpa [askE] using this
  · have := h2 j hj 1 (by decide); simpa [askE, Nat.add_assoc] using this
set_option maxHeartbeats 4000000 in
set_option maxRecDepth 100000 in
theorem octetReader_frame {W : World} {a a' : Option Addr} {n c n' c' : Nat} {l : List UInt8} {L : List (Int × Int)} (h : Rd byteE W a n c l) (hn : n ≤ 140737488351232) (hL : Rd askE W a' n' c' L) :
    Calls Try.prog 7 #[.slice a n c, .slice a' n' c'] W fun e w' => e = .returned (.bool true) ∧ Below W.heap.size W w' := by
  have hl := h.len
  have hll := hL.len
  subst hl
  subst hll
  have hH := Lib.hid h; clear h
  have hA := Lib.hid hL; clear hL
  by_cases h60 : L.length ≤ 60
  · go_enter Try.func7, Try.ntmps7
    go_wp2_with fail
    refine (lent_bytes hH.out hn).mono ?_
    rintro e w1 ⟨rfl, hB1, hb1⟩
    have hin : Rd byteE w1 (some ⟨W.heap.size, 0, none⟩) (l.length + 3) (l.length + 3) (lentL l) := rd_blk (E := byteE) (by rw [rowOf_byte]; exact hB1) _ (by rw [lentL_length]) (by unfold maxLen; omega)
    have hin0 : Rd byteE w1 (some ⟨W.heap.size, 0, none⟩) l.length (l.length + 3) l := by
      have := hin.cut 0 l.length (l.length + 3) (Nat.zero_le _) (by omega) (by omega) (Nat.le_refl _)
      have e1 : ((lentL l).take l.length).drop 0 = l := by rw [List.drop_zero, lentL, List.take_left' rfl]
      rw [e1] at this
      simpa [show l.length + 3 ≠ 0 by omega, Addr.add] using this
    have hB1' := Lib.hid hB1; clear hB1
    have hin' := Lib.hid hin; clear hin
    have hin0' := Lib.hid hin0; clear hin0
    go_wp2_with fail
    refine (new_any hin0'.out (by omega)).mono ?_
    rintro e w2 ⟨g, rfl, hg, hR, hb2⟩
    have hR' := Lib.hid hR; clear hR
    go_wp2_with fail
    refine (copy_bytes (hH.out.ext (hb1.trans (hb2.mono hb1.size))) (by omega)).mono ?_
    rintro e w3 ⟨⟨v, rfl, hO⟩, hb3⟩
    have hO' := Lib.hid hO; clear hO
    obtain ⟨a3, c3, rfl⟩ := hO'.out.shape
    go_wp2_with fail
    have hg2 := hR'.out.lt
    have hz1 := hb1.size
    have hz2 := hb2.size
    have hz3 := hb3.size
    generalize hW4 : w3.alloc (.cells #[.slice a3 l.length c3, .int .i64 0, .bool false] 59) = w4 at *
    have hT : Hid (TwoE w4 w1.heap.size g w2.heap.size w3.heap.size l) := by
      subst hW4
      refine ⟨0, false, hR'.out.keep (fun b _ hb => ?_) hg, ?_⟩
      · rw [Below.heap_alloc w3 _ b (by omega)]; exact hb3.block b (by omega)
      · refine ⟨a3, l.length, c3, by simpa using Blk.new w3 59 (0, 0) #[.slice a3 l.length c3, .int .i64 0, .bool false], ?_, own_addr hO'.out, Nat.zero_le _, fun e => by cases e⟩
        obtain ⟨a9, c9, e9, h9⟩ := hO'.out.rd
        cases e9
        exact h9.ext ((Below.refl _ _).alloc (Nat.le_refl _) _)
    have hz4 : w4.heap.size = w3.heap.size + 1 := by rw [← hW4]; simp
    have hb4 : Below W.heap.size W w4 := by rw [← hW4]; exact ((hb1.trans (hb2.mono hz1)).trans (hb3.mono (by omega))).alloc (by omega) _
    have hb14 : Below w1.heap.size w1 w4 := by rw [← hW4]; exact (hb2.trans (hb3.mono (by omega))).alloc (by omega) _
    have hLie := Lib.hid (show Lie w1.heap.size g w2.heap.size w3.heap.size from ⟨hg, hg2, hz3⟩)
    have hk1 : W.heap.size < w1.heap.size := hB1'.out.lt
    clear hW4 hO' hR' hb3 hb2
    refine (kept_bytes (hin'.out.ext hb14) (by omega) (hH.out.ext hb4) (by omega) rfl).mono ?_
    rintro e w5 ⟨rfl, hb5⟩
    have hbe : (lentL l == lentL l) = true := by simp
    rw [hbe]
    have hz5 := hb5.size
    have hT5 := Lib.hid (show TwoE w5 w1.heap.size g w2.heap.size w3.heap.size l from (by obtain ⟨p, q, h⟩ := hT.out; exact ⟨p, q, h.ext hLie.out (by omega) hb5⟩))
    have hB5 : Blk w5 W.heap.size 5 (0, 0) ([] ++ u8s (lentL l) ++ []) := by
      have := (hB1'.out.below hb14 hk1).below hb5 (by omega)
      simpa using this
    have hB5' := Lib.hid hB5; clear hB5
    go_wp2_with fail
    refine (over_bytes hB5'.out rfl (lentL_length l) (by omega) (by omega) (fun j _ => by simp)).mono ?_
    rintro e w6 ⟨rfl, _, hg6⟩
    have hz6 := hg6.size
    have hT6 := Lib.hid (show TwoE w6 w1.heap.size g w2.heap.size w3.heap.size l from (by
      obtain ⟨p, q, h⟩ := hT5.out
      exact ⟨p, q, h.1.keep (fun b h1 h2 => hg6.block b (by omega) (fun e => by cases e; omega)) hg, h.2.keep (fun b h1 h2 => hg6.block b (by omega) (fun e => by cases e; omega)) hz3⟩))
    have hb6 : Below W.heap.size W w6 := (hb4.trans (hb5.mono (by omega))).grown hg6 (by omega) (fun k hk => by cases hk; exact Nat.le_refl _)
    clear hT hT5 hB5' hg6 hb5 hb14 hb4 hin' hin0' hB1' hb1
    go_wp2_with fail
    go_loopw [8] (fun i wr => ∃ k : Nat, k ≤ L.length ∧ i = .int .i64 k ∧ TwoE wr w1.heap.size g w2.heap.size w3.heap.size l ∧ Below W.heap.size W wr)
      (fun i _ => L.length - (intOf i).toNat)
    case atStart => exact ⟨0, Nat.zero_le _, rfl, hT6.out, hb6⟩
    case round =>
      obtain ⟨k, hk, rfl, hTr, hbr⟩ := hrel
      have hTr' := Lib.hid hTr; clear hTr
      by_cases hlt : k < L.length
      · obtain ⟨b, o, rfl, hcell⟩ := rd_ask (hA.out.ext hbr) (by omega)
        obtain ⟨c0, c1⟩ := hcell k hlt
        clear hcell
        go_wp2_with fail
        refine (asked_any hTr'.out hLie.out (by omega) L[k].1 L[k].2).mono ?_
        rintro e w8 ⟨rfl, hT8, hb8⟩
        have hT8' := Lib.hid hT8; clear hT8
        go_wp2_with fail
        go_roundw
        case rel => exact ⟨k + 1, by omega, by go_num, hT8'.out, hbr.trans (hb8.mono hz1)⟩
        case measure => simp [intOf]; omega
      · have hk' : k = L.length := by omega
        subst hk'
        go_wp2_with fail
        refine (asked_any hTr'.out hLie.out (by omega) 7 0).mono ?_
        rintro e w8 ⟨rfl, hT8, hb8⟩
        go_wp2_with fail
        go_ret
        exact ⟨rfl, hbr.trans (hb8.mono hz1)⟩
  · go_enter Try.func7, Try.ntmps7
    go_wp2_with fail
    go_ret
    exact ⟨rfl, Below.refl _ _⟩

section
open Go.ChangeShapes Go.WideShapes Go.Deep
def fieldsOf (P : Program) (t : TypeId) : List (TypeId × Nat) := match P.underlying t with
  | some (.struct fs) => fs.toList.map fun f => (f.type, f.offset)
  | _ => []
theorem two_fields {P : Program} {t a b c d : Nat} (h : fieldsOf P t = [(a, b), (c, d)]) : ∃ f0 f1 : Field, P.underlying t = some (.struct #[f0, f1]) ∧ f0.offset = b ∧ f1.offset = d ∧ f0.type = a ∧ f1.type = c := by
  unfold fieldsOf at h
  split at h
  · rename_i fs hfs
    obtain ⟨fl⟩ := fs
    match fl, h with
    | [f0, f1], h =>
      simp at h
      exact ⟨f0, f1, hfs, h.1.2, h.2.2, h.1.1, h.2.1⟩
  · cases h
set_option maxRecDepth 100000 in
theorem open_asks {H : Type} {enc : TypeId × Value → H} {w : World} {v : Value} {d : DataW H} {p : List MemPlace} {r : Reach} {b0 : Nat} (hv : Value.okWide Try.prog w r b0 54 v) (h : DataW.Trod enc Try.prog w 0 (fun _ => true) true 54 v d p) :
    ∃ a n c l, v = .slice a n c ∧ Rd askE w a n c l := by
  obtain ⟨a0, n0, c0, rfl⟩ := okWide_slice (e := 63) (by kernel_rfl) hv
  obtain ⟨fuel, hf⟩ := h
  obtain ⟨f0, f1, he, o0, o1, t0, t1⟩ := two_fields (P := Try.prog) (t := 63) (a := 5) (b := 0) (c := 3) (d := 1) (by kernel_rfl)
  rcases open_slice_pairs (t := 54) (e := 63) (by kernel_rfl) he (by kernel_rfl) o0 o1 (by rw [t0]; kernel_rfl) (by rw [t1]; kernel_rfl) hf with ⟨hcs, _⟩ | ⟨x, len, cap, m, k, V0, V1, D0, D1, P0, P1, hcs, _, hl, hm, hmm, _, hx⟩
  · simp [Value.cells] at hcs
    obtain ⟨rfl, rfl, rfl⟩ := hcs
    exact ⟨none, 0, 0, [], rfl, Rd.nil _ _⟩
  · simp [Value.cells] at hcs
    obtain ⟨rfl, rfl, rfl⟩ := hcs
    have hm' : m = c0 := by simpa using hmm
    have each : ∀ i, i < c0 → ∃ p : Int × Int, w.cell? (x.add (i * 2)) = some (.int .u8 p.1) ∧ w.cell? (x.add (i * 2 + 1)) = some (.int .i64 p.2) := by
      intro i hi
      obtain ⟨h0, h1, h2, h3⟩ := hx i (by omega)
      rw [t0] at h2
      rw [t1] at h3
      obtain ⟨y, e1, _, _⟩ := DataW.trod_int Try.underlying5 h2
      obtain ⟨z, e2, _, _⟩ := DataW.trod_int Try.underlying3 h3
      simp at e1 e2
      exact ⟨(y, z), by rw [h0, e1], by rw [h1, e2]⟩
    obtain ⟨q, hq⟩ := choose_lt each
    refine ⟨_, n0, c0, (List.range n0).map q, rfl, by simp, hl, hm, fun j hj i hi => ?_⟩
    have hj' : j < n0 := by simpa using hj
    obtain ⟨b, o, rfl⟩ := spot_none (by simpa [Addr.add] using (hq 0 (by omega)).1)
    refine ⟨b, o, rfl, ?_⟩
    have h1 := hq j (by omega)
    rw [Addr.add_lit, Addr.add_lit] at h1
    have hi2 : i = 0 ∨ i = 1 := by have : askE.k = 2 := rfl; omega
    rcases hi2 with rfl | rfl
    · have e : o + (j * askE.k + 0) = o + j * 2 := rfl
      rw [e, h1.1]; simp [askE]
    · have e : o + (j * askE.k + 1) = o + (j * 2 + 1) := rfl
      rw [e, h1.2]; simp [askE]
set_option maxRecDepth 100000 in
theorem octetReader_law {H : Type} {enc : TypeId × Value → H} {W : World} {ts : List TypeId} {ds : List (DataW H)} (a : Option Addr) (n c : Nat) (l : List UInt8) (h : RB W a n c l) (v : Value) (d : DataW H) (p : List MemPlace)
    (h1 : DataW.Trod enc Try.prog W 0 (fun _ => true) true 54 v d p) {r : Reach} {b0 : Nat} (hv : Value.okWide Try.prog W r b0 54 v) (_ : (DataW.weightsEach Try.prog ts ds).all (· ≤ reachBytes) = true) (_ : World) :
    Calls Try.prog 7 #[.slice a n c, v] W fun e w' => e = .returned (.bool true) ∧ Below W.heap.size W w' := by
  obtain ⟨a', n', c', L, rfl, hL⟩ := open_asks hv h1
  have := h.rd.cap
  have := h.most
  exact octetReader_frame h.rd (by unfold reachBytes at this; omega) hL
end
end Go.Proofs.Ytffdcfannnmjnaa
