/-
  No cell of these rows narrows 'for every input' (looked for: loops, veiled, ifaces, maps, wideKeys, modest, calm, conditions, laid).
  DERIVED. THE GIVEN ROWS OF THIS SEAT. 5 by the template 'for every input the law returns true; each argument reads behind the call as it read before'; 0 by the template 'total and deterministic' (their statements: YthgnlbdolilklaaTotals.lean).
  GIVEN WITH THE SEED: the statements are not yours to turn. If you find one false, say at which input.
  Laid BY PROGRAM, IN A SANDBOX (cutbox-rows.mjs): the forced cells as the released guide's own fill.sh prints them over the translation b81cf4e2cdd75367… (all of the seat's roots in one cut). By AI agents, Wed Nov 11 2026. No macro, syntax, notation, axiom, sorry.
-/
import Derived.Test.YthgnlbdolilklaaChecked
import GoSem.Claim
import GoSem.ClaimJoined
import GoSem.ClaimMapViews
import Derived.JoinedTies
import Derived.KernelRfl
namespace Go.Proofs.Ythgnlbdolilklaa
/- THE CELL 'sum', in the pinned program and in every row, IS THE sha256 OF THE DUMP (.gsa) THAT YthgnlbdolilklaaProg.lean LOADS. Nothing in Lean hashes anything: it is a label: what it is worth is what the hold of that sum in a sandbox is worth. -/
noncomputable def Try.pinned : Pinned := { name := "ythgnlbdolilklaa", sum := "b81cf4e2cdd75367bb5b59f28b9964f055405afeed45adc67ce5fcdd2ac55ad1", checked := Try.checked }
namespace Rows
def none {H : Type} : Left H := { results := [], args := [] }

/-- 'nomenclatorlaw11.EdnsTells': WHATEVER THE INPUT: true; the input reads as it did. -/
def ednsTellsSpec : ChangeSpec := { name := "ednsTells", fn := fun _ => fun
  | [d1, d2] => { results := [.lit (.bool true)], args := [d1, d2] }
  | _ => none }
def ednsTellsRow : OpenClaim := { program := "ythgnlbdolilklaa", sum := "b81cf4e2cdd75367bb5b59f28b9964f055405afeed45adc67ce5fcdd2ac55ad1", func := "nomenclator/nomenclatorlaw11.EdnsTells", spec := "ednsTells", apart := false }
def EdnsTellsSaid : Prop := ednsTellsRow.holds Try.pinned (OpenSpec.ofChange ednsTellsSpec)

/-- ITS FALSE NEIGHBOUR: 'it returns false'. Refute it at one input. -/
def ednsTellsWrong : ChangeSpec := { name := "ednsTells", fn := fun _ => fun
  | [d1, d2] => { results := [.lit (.bool false)], args := [d1, d2] }
  | _ => none }
def EdnsTellsWrongFalsely : Prop := ednsTellsRow.holds Try.pinned (OpenSpec.ofChange ednsTellsWrong)

/-- 'nomenclatorlaw11.EdnsBack': WHATEVER THE INPUT: true; the input reads as it did. -/
def ednsBackSpec : ChangeSpec := { name := "ednsBack", fn := fun _ => fun
  | [d1, d2] => { results := [.lit (.bool true)], args := [d1, d2] }
  | _ => none }
def ednsBackRow : OpenClaim := { program := "ythgnlbdolilklaa", sum := "b81cf4e2cdd75367bb5b59f28b9964f055405afeed45adc67ce5fcdd2ac55ad1", func := "nomenclator/nomenclatorlaw11.EdnsBack", spec := "ednsBack", apart := false }
def EdnsBackSaid : Prop := ednsBackRow.holds Try.pinned (OpenSpec.ofChange ednsBackSpec)

/-- ITS FALSE NEIGHBOUR: 'it returns false'. Refute it at one input. -/
def ednsBackWrong : ChangeSpec := { name := "ednsBack", fn := fun _ => fun
  | [d1, d2] => { results := [.lit (.bool false)], args := [d1, d2] }
  | _ => none }
def EdnsBackWrongFalsely : Prop := ednsBackRow.holds Try.pinned (OpenSpec.ofChange ednsBackWrong)

/-- 'nomenclatorlaw11.EdnsKnown': WHATEVER THE INPUT: true; the input reads as it did. -/
def ednsKnownSpec : ChangeSpec := { name := "ednsKnown", fn := fun _ => fun
  | [] => { results := [.lit (.bool true)], args := [] }
  | _ => none }
def ednsKnownRow : OpenClaim := { program := "ythgnlbdolilklaa", sum := "b81cf4e2cdd75367bb5b59f28b9964f055405afeed45adc67ce5fcdd2ac55ad1", func := "nomenclator/nomenclatorlaw11.EdnsKnown", spec := "ednsKnown", unfollowed := true, recurses := true, apart := false }
def EdnsKnownSaid : Prop := ednsKnownRow.holds Try.pinned (OpenSpec.ofChange ednsKnownSpec)

/-- ITS FALSE NEIGHBOUR: 'it returns false'. Refute it at one input. -/
def ednsKnownWrong : ChangeSpec := { name := "ednsKnown", fn := fun _ => fun
  | [] => { results := [.lit (.bool false)], args := [] }
  | _ => none }
def EdnsKnownWrongFalsely : Prop := ednsKnownRow.holds Try.pinned (OpenSpec.ofChange ednsKnownWrong)

/-- 'nomenclatorlaw11.EdnsMessages': WHATEVER THE INPUT: true; the input reads as it did. -/
def ednsMessagesSpec : ChangeSpec := { name := "ednsMessages", fn := fun _ => fun
  | [d1, d2, d3] => { results := [.lit (.bool true)], args := [d1, d2, d3] }
  | _ => none }
def ednsMessagesRow : OpenClaim := { program := "ythgnlbdolilklaa", sum := "b81cf4e2cdd75367bb5b59f28b9964f055405afeed45adc67ce5fcdd2ac55ad1", func := "nomenclator/nomenclatorlaw11.EdnsMessages", spec := "ednsMessages", unfollowed := true, recurses := true, apart := false }
def EdnsMessagesSaid : Prop := ednsMessagesRow.holds Try.pinned (OpenSpec.ofChange ednsMessagesSpec)

/-- ITS FALSE NEIGHBOUR: 'it returns false'. Refute it at one input. -/
def ednsMessagesWrong : ChangeSpec := { name := "ednsMessages", fn := fun _ => fun
  | [d1, d2, d3] => { results := [.lit (.bool false)], args := [d1, d2, d3] }
  | _ => none }
def EdnsMessagesWrongFalsely : Prop := ednsMessagesRow.holds Try.pinned (OpenSpec.ofChange ednsMessagesWrong)

/-- 'nomenclatorlaw11.EdnsWith': WHATEVER THE INPUT: true; the input reads as it did. -/
def ednsWithSpec : ChangeSpec := { name := "ednsWith", fn := fun _ => fun
  | [d1, d2, d3] => { results := [.lit (.bool true)], args := [d1, d2, d3] }
  | _ => none }
def ednsWithRow : OpenClaim := { program := "ythgnlbdolilklaa", sum := "b81cf4e2cdd75367bb5b59f28b9964f055405afeed45adc67ce5fcdd2ac55ad1", func := "nomenclator/nomenclatorlaw11.EdnsWith", spec := "ednsWith", unfollowed := true, recurses := true, apart := false }
def EdnsWithSaid : Prop := ednsWithRow.holds Try.pinned (OpenSpec.ofChange ednsWithSpec)

/-- ITS FALSE NEIGHBOUR: 'it returns false'. Refute it at one input. -/
def ednsWithWrong : ChangeSpec := { name := "ednsWith", fn := fun _ => fun
  | [d1, d2, d3] => { results := [.lit (.bool false)], args := [d1, d2, d3] }
  | _ => none }
def EdnsWithWrongFalsely : Prop := ednsWithRow.holds Try.pinned (OpenSpec.ofChange ednsWithWrong)

/- THE SECOND FORM. 'bulk': how many values and letters a reading holds, each counted each time it is reached (what is shared counts as often as it is met; a slice's spare places count too). A statement '..UptoSaid' is the law's where the arguments, and the package variables that the reading takes, are together of bulk at most 1048576: NARROWER than '..Said'. Prove '..Said' where nothing that the law and all that it calls make is longer than what came in: it says more and counts as full. Else prove '..UptoSaid'. A law counts once. -/
mutual
def uptoBulk {H : Type} : DataW H → Nat
  | .lit (.string bytes) => bytes.length + 1
  | .lit _ => 1
  | .nil => 1
  | .ptr d => uptoBulk d + 1
  | .slice elems spare => uptoBulkAll elems + uptoBulkAll spare + 1
  | .agg parts => uptoBulkAll parts + 1
  | .iface _ d => uptoBulk d + 1
  | .map entries => uptoBulkEntries entries + 1
  | .held _ => 1
def uptoBulkAll {H : Type} : List (DataW H) → Nat
  | [] => 0
  | d :: r => uptoBulk d + uptoBulkAll r
def uptoBulkEntries {H : Type} : List (Lit × DataW H) → Nat
  | [] => 0
  | x :: r => uptoBulkEntry x + uptoBulkEntries r
def uptoBulkEntry {H : Type} : Lit × DataW H → Nat
  | (.string bytes, d) => bytes.length + uptoBulk d + 1
  | (_, d) => uptoBulk d + 1
 end
def uptoSmall : (H : Type) → List (DataW H) → Bool := fun _ ds => decide (uptoBulkAll ds ≤ 1048576)
def OpenSpec.upto (s : _root_.Go.ChangeSpec) : _root_.Go.OpenSpec := { _root_.Go.OpenSpec.ofChange s with cond := some uptoSmall }

/-- 'nomenclatorlaw11.EdnsTells', WHERE WHAT IT READS IS OF BULK AT MOST 1048576: true; the input reads as it did. -/
def ednsTellsUptoRow : OpenClaim := { program := "ythgnlbdolilklaa", sum := "b81cf4e2cdd75367bb5b59f28b9964f055405afeed45adc67ce5fcdd2ac55ad1", func := "nomenclator/nomenclatorlaw11.EdnsTells", spec := "ednsTells", apart := false, narrowed := true }
def EdnsTellsUptoSaid : Prop := ednsTellsUptoRow.holds Try.pinned (OpenSpec.upto ednsTellsSpec)

/-- 'nomenclatorlaw11.EdnsBack', WHERE WHAT IT READS IS OF BULK AT MOST 1048576: true; the input reads as it did. -/
def ednsBackUptoRow : OpenClaim := { program := "ythgnlbdolilklaa", sum := "b81cf4e2cdd75367bb5b59f28b9964f055405afeed45adc67ce5fcdd2ac55ad1", func := "nomenclator/nomenclatorlaw11.EdnsBack", spec := "ednsBack", apart := false, narrowed := true }
def EdnsBackUptoSaid : Prop := ednsBackUptoRow.holds Try.pinned (OpenSpec.upto ednsBackSpec)

/-- 'nomenclatorlaw11.EdnsKnown', WHERE WHAT IT READS IS OF BULK AT MOST 1048576: true; the input reads as it did. -/
def ednsKnownUptoRow : OpenClaim := { program := "ythgnlbdolilklaa", sum := "b81cf4e2cdd75367bb5b59f28b9964f055405afeed45adc67ce5fcdd2ac55ad1", func := "nomenclator/nomenclatorlaw11.EdnsKnown", spec := "ednsKnown", unfollowed := true, recurses := true, apart := false, narrowed := true }
def EdnsKnownUptoSaid : Prop := ednsKnownUptoRow.holds Try.pinned (OpenSpec.upto ednsKnownSpec)

/-- 'nomenclatorlaw11.EdnsMessages', WHERE WHAT IT READS IS OF BULK AT MOST 1048576: true; the input reads as it did. -/
def ednsMessagesUptoRow : OpenClaim := { program := "ythgnlbdolilklaa", sum := "b81cf4e2cdd75367bb5b59f28b9964f055405afeed45adc67ce5fcdd2ac55ad1", func := "nomenclator/nomenclatorlaw11.EdnsMessages", spec := "ednsMessages", unfollowed := true, recurses := true, apart := false, narrowed := true }
def EdnsMessagesUptoSaid : Prop := ednsMessagesUptoRow.holds Try.pinned (OpenSpec.upto ednsMessagesSpec)

/-- 'nomenclatorlaw11.EdnsWith', WHERE WHAT IT READS IS OF BULK AT MOST 1048576: true; the input reads as it did. -/
def ednsWithUptoRow : OpenClaim := { program := "ythgnlbdolilklaa", sum := "b81cf4e2cdd75367bb5b59f28b9964f055405afeed45adc67ce5fcdd2ac55ad1", func := "nomenclator/nomenclatorlaw11.EdnsWith", spec := "ednsWith", unfollowed := true, recurses := true, apart := false, narrowed := true }
def EdnsWithUptoSaid : Prop := ednsWithUptoRow.holds Try.pinned (OpenSpec.upto ednsWithSpec)

end Rows
end Go.Proofs.Ythgnlbdolilklaa
