/- A method of a value's own type, called on a pointer in an interface. Nothing of the program. -/
import Derived.WalkKit
import Derived.ChangeKeysEq
namespace Go.Proofs.Ytckimjmidbdalaa
open Go.RowKit
theorem run_nilchk (P : Program) (a b : TypeId) (p : Addr) (s m : String) (w : World) : (Builtin.ssaWrapNilChk_ #[a] b #[.pointer (some p), strVal s, strVal m]).run P w = .ok (.pointer (some p)) w := by
  rfl
theorem run_loadVar_one {P : Program} (t : TypeId) (ha : ∀ w, (isAgg t).run P w = .ok false w) (a : Addr) (w : World) (v : Value) (h : w.cell? a = some v) : (loadVar t a).run P w = .ok v w := by
  unfold loadVar
  simp [h, ha]
theorem recv_one {P : Program} (t e : TypeId) (hu : P.underlying t = some (.pointer e)) (ha : ∀ w, (isAgg e).run P w = .ok false w) (nm : String) (a : Addr) (w : World) (v : Value) (h : w.cell? a = some v) : (receiverAt t (.val (.pointer (some a))) false (some nm)).run P w = .ok v w := by
  have hl := run_loadVar_one e ha a w v h
  simp [receiverAt, run_underlying hu, Place.get, run_nilchk, asAddr, hl]
theorem method_one {P : Program} (t e : TypeId) (K : FuncId) (nm : String) (fuel : Nat) (hq : (((P.info? t).bind fun i => i.methods.find? (·.name == nm)).map fun m => (m.path.size, m.func)) = some (0, some (K, false))) (hu : P.underlying t = some (.pointer e)) (ha : ∀ w, (isAgg e).run P w = .ok false w)
    (a : Addr) (w : World) (v : Value) (h : w.cell? a = some v) : (method (fuel + 1) t (.pointer (some a)) nm).run P w = .ok (K, v) w := by
  cases hi : P.info? t with
  | none => rw [hi] at hq; simp at hq
  | some i =>
    rw [hi] at hq
    cases hm : i.methods.find? (·.name == nm) with
    | none => simp only [Option.bind_some, hm] at hq; simp at hq
    | some m =>
      simp only [Option.bind_some, hm, Option.map_some, Option.some.injEq, Prod.mk.injEq] at hq
      have hp : m.path = #[] := Array.eq_empty_of_size_eq_zero hq.1
      have hf := hq.2
      have hr := fun x => recv_one t e hu ha x a w v h
      unfold method
      simp [run_typeInfo w hi, hm, hp, hf, follow, hr]
end Go.Proofs.Ytckimjmidbdalaa
