/- The element types of this translation, and append onto a slice of the call's own. -/
import Derived.Test.YtojdjhicjhhblaaDoorProg
import Derived.Test.YtojdjhicjhhblaaDoorStp
namespace Go.Proofs.YtojdjhicjhhblaaDoor
open Go.RowKit
/-- append(out, x) of one byte, out the call's own -/
theorem app_byte {ops : Array Oper} {rest : List Oper} {o : Oper} {a : Act} {Q : Exit → Act → World → Prop} {w : World} (hgd : o.guard = none) (s x : Operand)
    (ho : o.op = .call { callee := .builtin .append, args := #[s, x], argTypes := #[47, 47] })
    {base n : Nat} {v : Value} {xs : List UInt8} (hs : a.eval s = v) (c : UInt8) (hown : w.ownsRow base 5 1 v n (u8s xs))
    (hx : a.eval x = .slice (some ⟨w.heap.size, 0, none⟩) 1 1) (W : World) (hW : W = w.alloc (.cells #[.int .u8 c.toNat] 5)) (hlen : n + 1 ≤ 140737488355328) (hbase : base ≤ w.heap.size)
    (h : ∀ v' w', w'.ownsRow base 5 1 v' (n + 1) (u8s (xs ++ [c])) → w.grownBy w' v.ownBlock → wpList Tryd.prog ops Q rest (a.put o.dst v') w') : wpList Tryd.prog ops Q (o :: rest) a W := by
  subst hW
  obtain ⟨i0, hi, hz0, hz1, hz2⟩ := info_parts Tryd.info5
  refine wpList_append_own _ hgd s x 47 ho base 5 i0 (.int .u8 0) 1 1 Tryd.underlying47 hi hz0 hz1 hz2 rfl (by decide) v n (u8s xs) hs (hown.alloc _) ⟨w.heap.size, 0, none⟩ 1 1 [.int .u8 c.toNat] hx rfl (new_one _ _ _ _) ?_ ?_ ?_ ?_ ?_
  · intro u hu; simp at hu; subst hu; rfl
  · simp only [maxLen]; omega
  · omega
  · simp; omega
  · intro v' w' h1 h2 _
    refine h v' w' ?_ (grown_alloc _ h2)
    rw [u8s_append]; exact h1
end Go.Proofs.YtojdjhicjhhblaaDoor
