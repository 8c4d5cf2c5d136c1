/- EdnsMessages: its three ways, joined; printed by gen_emw.py. -/
import Derived.Test.YthgnlbdolilklaaEmT
import Derived.Test.YthgnlbdolilklaaEmB
import Derived.Test.YthgnlbdolilklaaEmG
import Derived.Test.YthgnlbdolilklaaOfW
import Derived.Test.YthgnlbdolilklaaOpenM
namespace Go.Proofs.Ythgnlbdolilklaa
open Go Go.RowKit
section
open Go.ChangeShapes Go.WideShapes
variable {H : Type} {enc : TypeId × Value → H}
set_option maxRecDepth 100000 in
theorem ednsMessages_law {W : World} {r : Reach} {b0 : Nat} {ts : List TypeId} {ds : List (DataW H)} (v0 : Value) (d0 : DataW H) (p0 : List MemPlace) (h0 : DataW.Trod enc Try.prog W 0 (fun _ => true) true 60 v0 d0 p0) (hv0 : Value.okWide Try.prog W r b0 60 v0)
    (_ : (DataW.weightsEach Try.prog ts ds).all (· ≤ reachBytes) = true) {x : Nat} (hb : Rows.uptoBulk d0 + x ≤ 1048576) (z0 : Sz Try.prog 60 d0) (v1 : Value) (d1 : DataW H) (p1 : List MemPlace) (h1 : DataW.Trod enc Try.prog W 0 (fun _ => true) true 24 v1 d1 p1) (hv1 : Value.okWide Try.prog W r b0 24 v1)
    (_ : (DataW.weightsEach Try.prog ts ds).all (· ≤ reachBytes) = true) {y : Nat} (_ : y ≤ 1048576) (z1 : Sz Try.prog 24 d1) (own : Int) (_ : (Lit.int .i64 own).wf = true) (_ : World) : Calls Try.prog 6 #[v0, v1, .int .i64 own] W fun e w' => e = .returned (.bool true) ∧ Below W.heap.size W w' := by
  obtain ⟨id, rs, op, aa, tc, rd, ra, ad, cd, rc, qa, qn, qc, QS, NS, an, nn1, nc1, Q1, L1, au, nn2, nc2, Q2, L2, ad3, nn3, nc3, Q3, L3, rfl, hM, hz⟩ := open_msg hv0 h0 z0 (by omega)
  obtain ⟨sz, hi, ver, b, a, n, c, O, rfl, hO, hC⟩ := open_edns hv1 h1 z1
  by_cases h1 : 0 ≤ idxF Q3 0
  · exact messages_T hM hz id rs op aa tc rd ra ad cd rc hO hC sz hi ver b own h1
  · by_cases h2 : mayB sz hi ver = true ∧ (rawB O).length ≤ 65535
    · exact messages_G hM hz id rs op aa tc rd ra ad cd rc hO hC sz hi ver b own ⟨by omega, h2⟩
    · exact messages_B hM hz id rs op aa tc rd ra ad cd rc hO hC sz hi ver b own ⟨by omega, h2⟩
end
end Go.Proofs.Ythgnlbdolilklaa
