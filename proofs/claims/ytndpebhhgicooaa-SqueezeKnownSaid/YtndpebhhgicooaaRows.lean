/-
  No cell of these rows narrows 'for every input' (looked for: loops, veiled, ifaces, maps, wideKeys, modest, calm, conditions, laid).
  DERIVED. THE GIVEN ROWS OF THIS SEAT. 6 by the template 'for every input the law returns true; each argument reads behind the call as it read before'; 0 by the template 'total and deterministic' (their statements: YtndpebhhgicooaaTotals.lean).
  GIVEN WITH THE SEED: the statements are not yours to turn. If you find one false, say at which input.
  Laid BY PROGRAM, IN A SANDBOX (cutbox-rows.mjs): the forced cells as the released guide's own fill.sh prints them over the translation 10925e0a2efe8f12… (all of the seat's roots in one cut). By AI agents, Wed Nov 11 2026. No macro, syntax, notation, axiom, sorry.
-/
import Derived.Test.YtndpebhhgicooaaChecked
import GoSem.Claim
import GoSem.ClaimJoined
import GoSem.ClaimMapViews
import Derived.JoinedTies
import Derived.KernelRfl
namespace Go.Proofs.Ytndpebhhgicooaa
/- THE CELL 'sum', in the pinned program and in every row, IS THE sha256 OF THE DUMP (.gsa) THAT YtndpebhhgicooaaProg.lean LOADS. Nothing in Lean hashes anything: it is a label: what it is worth is what the hold of that sum in a sandbox is worth. -/
noncomputable def Try.pinned : Pinned := { name := "ytndpebhhgicooaa", sum := "10925e0a2efe8f127d29af9fb71d2e17d9b74b9df28ec36c2b883ae732da59b5", checked := Try.checked }
namespace Rows
def none {H : Type} : Left H := { results := [], args := [] }

/-- 'nomenclatorlaw09.SqueezeReads': WHATEVER THE INPUT: true; the input reads as it did. -/
def squeezeReadsSpec : ChangeSpec := { name := "squeezeReads", fn := fun _ => fun
  | [d1, d2, d3] => { results := [.lit (.bool true)], args := [d1, d2, d3] }
  | _ => none }
def squeezeReadsRow : OpenClaim := { program := "ytndpebhhgicooaa", sum := "10925e0a2efe8f127d29af9fb71d2e17d9b74b9df28ec36c2b883ae732da59b5", func := "nomenclator/nomenclatorlaw09.SqueezeReads", spec := "squeezeReads", apart := false }
def SqueezeReadsSaid : Prop := squeezeReadsRow.holds Try.pinned (OpenSpec.ofChange squeezeReadsSpec)

/-- ITS FALSE NEIGHBOUR: 'it returns false'. Refute it at one input. -/
def squeezeReadsWrong : ChangeSpec := { name := "squeezeReads", fn := fun _ => fun
  | [d1, d2, d3] => { results := [.lit (.bool false)], args := [d1, d2, d3] }
  | _ => none }
def SqueezeReadsWrongFalsely : Prop := squeezeReadsRow.holds Try.pinned (OpenSpec.ofChange squeezeReadsWrong)

/-- 'nomenclatorlaw09.SqueezeScript': WHATEVER THE INPUT: true; the input reads as it did. -/
def squeezeScriptSpec : ChangeSpec := { name := "squeezeScript", fn := fun _ => fun
  | [d] => { results := [.lit (.bool true)], args := [d] }
  | _ => none }
def squeezeScriptRow : OpenClaim := { program := "ytndpebhhgicooaa", sum := "10925e0a2efe8f127d29af9fb71d2e17d9b74b9df28ec36c2b883ae732da59b5", func := "nomenclator/nomenclatorlaw09.SqueezeScript", spec := "squeezeScript", apart := false }
def SqueezeScriptSaid : Prop := squeezeScriptRow.holds Try.pinned (OpenSpec.ofChange squeezeScriptSpec)

/-- ITS FALSE NEIGHBOUR: 'it returns false'. Refute it at one input. -/
def squeezeScriptWrong : ChangeSpec := { name := "squeezeScript", fn := fun _ => fun
  | [d] => { results := [.lit (.bool false)], args := [d] }
  | _ => none }
def SqueezeScriptWrongFalsely : Prop := squeezeScriptRow.holds Try.pinned (OpenSpec.ofChange squeezeScriptWrong)

/-- 'nomenclatorlaw09.SqueezeSound': WHATEVER THE INPUT: true; the input reads as it did. -/
def squeezeSoundSpec : ChangeSpec := { name := "squeezeSound", fn := fun _ => fun
  | [d1, d2, d3] => { results := [.lit (.bool true)], args := [d1, d2, d3] }
  | _ => none }
def squeezeSoundRow : OpenClaim := { program := "ytndpebhhgicooaa", sum := "10925e0a2efe8f127d29af9fb71d2e17d9b74b9df28ec36c2b883ae732da59b5", func := "nomenclator/nomenclatorlaw09.SqueezeSound", spec := "squeezeSound", apart := false }
def SqueezeSoundSaid : Prop := squeezeSoundRow.holds Try.pinned (OpenSpec.ofChange squeezeSoundSpec)

/-- ITS FALSE NEIGHBOUR: 'it returns false'. Refute it at one input. -/
def squeezeSoundWrong : ChangeSpec := { name := "squeezeSound", fn := fun _ => fun
  | [d1, d2, d3] => { results := [.lit (.bool false)], args := [d1, d2, d3] }
  | _ => none }
def SqueezeSoundWrongFalsely : Prop := squeezeSoundRow.holds Try.pinned (OpenSpec.ofChange squeezeSoundWrong)

/-- 'nomenclatorlaw09.SqueezeBack': WHATEVER THE INPUT: true; the input reads as it did. -/
def squeezeBackSpec : ChangeSpec := { name := "squeezeBack", fn := fun _ => fun
  | [d1, d2] => { results := [.lit (.bool true)], args := [d1, d2] }
  | _ => none }
def squeezeBackRow : OpenClaim := { program := "ytndpebhhgicooaa", sum := "10925e0a2efe8f127d29af9fb71d2e17d9b74b9df28ec36c2b883ae732da59b5", func := "nomenclator/nomenclatorlaw09.SqueezeBack", spec := "squeezeBack", apart := false }
def SqueezeBackSaid : Prop := squeezeBackRow.holds Try.pinned (OpenSpec.ofChange squeezeBackSpec)

/-- ITS FALSE NEIGHBOUR: 'it returns false'. Refute it at one input. -/
def squeezeBackWrong : ChangeSpec := { name := "squeezeBack", fn := fun _ => fun
  | [d1, d2] => { results := [.lit (.bool false)], args := [d1, d2] }
  | _ => none }
def SqueezeBackWrongFalsely : Prop := squeezeBackRow.holds Try.pinned (OpenSpec.ofChange squeezeBackWrong)

/-- 'nomenclatorlaw09.SqueezeNone': WHATEVER THE INPUT: true; the input reads as it did. -/
def squeezeNoneSpec : ChangeSpec := { name := "squeezeNone", fn := fun _ => fun
  | [d1, d2, d3] => { results := [.lit (.bool true)], args := [d1, d2, d3] }
  | _ => none }
def squeezeNoneRow : OpenClaim := { program := "ytndpebhhgicooaa", sum := "10925e0a2efe8f127d29af9fb71d2e17d9b74b9df28ec36c2b883ae732da59b5", func := "nomenclator/nomenclatorlaw09.SqueezeNone", spec := "squeezeNone", apart := false }
def SqueezeNoneSaid : Prop := squeezeNoneRow.holds Try.pinned (OpenSpec.ofChange squeezeNoneSpec)

/-- ITS FALSE NEIGHBOUR: 'it returns false'. Refute it at one input. -/
def squeezeNoneWrong : ChangeSpec := { name := "squeezeNone", fn := fun _ => fun
  | [d1, d2, d3] => { results := [.lit (.bool false)], args := [d1, d2, d3] }
  | _ => none }
def SqueezeNoneWrongFalsely : Prop := squeezeNoneRow.holds Try.pinned (OpenSpec.ofChange squeezeNoneWrong)

/-- 'nomenclatorlaw09.SqueezeKnown': WHATEVER THE INPUT: true; the input reads as it did. -/
def squeezeKnownSpec : ChangeSpec := { name := "squeezeKnown", fn := fun _ => fun
  | [] => { results := [.lit (.bool true)], args := [] }
  | _ => none }
def squeezeKnownRow : OpenClaim := { program := "ytndpebhhgicooaa", sum := "10925e0a2efe8f127d29af9fb71d2e17d9b74b9df28ec36c2b883ae732da59b5", func := "nomenclator/nomenclatorlaw09.SqueezeKnown", spec := "squeezeKnown", apart := false }
def SqueezeKnownSaid : Prop := squeezeKnownRow.holds Try.pinned (OpenSpec.ofChange squeezeKnownSpec)

/-- ITS FALSE NEIGHBOUR: 'it returns false'. Refute it at one input. -/
def squeezeKnownWrong : ChangeSpec := { name := "squeezeKnown", fn := fun _ => fun
  | [] => { results := [.lit (.bool false)], args := [] }
  | _ => none }
def SqueezeKnownWrongFalsely : Prop := squeezeKnownRow.holds Try.pinned (OpenSpec.ofChange squeezeKnownWrong)

/- THE SECOND FORM. 'bulk': how many values and letters a reading holds, each counted each time it is reached (what is shared counts as often as it is met; a slice's spare places count too). A statement '..UptoSaid' is the law's where the arguments, and the package variables that the reading takes, are together of bulk at most 1048576: NARROWER than '..Said'. Prove '..Said' where nothing that the law and all that it calls make is longer than what came in: it says more and counts as full. Else prove '..UptoSaid'. A law counts once. -/
mutual
def uptoBulk {H : Type} : DataW H → Nat
  | .lit (.string bytes) => bytes.length + 1
  | .lit _ => 1
  | .nil => 1
  | .ptr d => uptoBulk d + 1
  | .slice elems spare => uptoBulkAll elems + uptoBulkAll spare + 1
  | .agg parts => uptoBulkAll parts + 1
  | .iface _ d => uptoBulk d + 1
  | .map entries => uptoBulkEntries entries + 1
  | .held _ => 1
def uptoBulkAll {H : Type} : List (DataW H) → Nat
  | [] => 0
  | d :: r => uptoBulk d + uptoBulkAll r
def uptoBulkEntries {H : Type} : List (Lit × DataW H) → Nat
  | [] => 0
  | x :: r => uptoBulkEntry x + uptoBulkEntries r
def uptoBulkEntry {H : Type} : Lit × DataW H → Nat
  | (.string bytes, d) => bytes.length + uptoBulk d + 1
  | (_, d) => uptoBulk d + 1
 end
def uptoSmall : (H : Type) → List (DataW H) → Bool := fun _ ds => decide (uptoBulkAll ds ≤ 1048576)
def OpenSpec.upto (s : _root_.Go.ChangeSpec) : _root_.Go.OpenSpec := { _root_.Go.OpenSpec.ofChange s with cond := some uptoSmall }

/-- 'nomenclatorlaw09.SqueezeReads', WHERE WHAT IT READS IS OF BULK AT MOST 1048576: true; the input reads as it did. -/
def squeezeReadsUptoRow : OpenClaim := { program := "ytndpebhhgicooaa", sum := "10925e0a2efe8f127d29af9fb71d2e17d9b74b9df28ec36c2b883ae732da59b5", func := "nomenclator/nomenclatorlaw09.SqueezeReads", spec := "squeezeReads", apart := false, narrowed := true }
def SqueezeReadsUptoSaid : Prop := squeezeReadsUptoRow.holds Try.pinned (OpenSpec.upto squeezeReadsSpec)

/-- 'nomenclatorlaw09.SqueezeScript', WHERE WHAT IT READS IS OF BULK AT MOST 1048576: true; the input reads as it did. -/
def squeezeScriptUptoRow : OpenClaim := { program := "ytndpebhhgicooaa", sum := "10925e0a2efe8f127d29af9fb71d2e17d9b74b9df28ec36c2b883ae732da59b5", func := "nomenclator/nomenclatorlaw09.SqueezeScript", spec := "squeezeScript", apart := false, narrowed := true }
def SqueezeScriptUptoSaid : Prop := squeezeScriptUptoRow.holds Try.pinned (OpenSpec.upto squeezeScriptSpec)

/-- 'nomenclatorlaw09.SqueezeSound', WHERE WHAT IT READS IS OF BULK AT MOST 1048576: true; the input reads as it did. -/
def squeezeSoundUptoRow : OpenClaim := { program := "ytndpebhhgicooaa", sum := "10925e0a2efe8f127d29af9fb71d2e17d9b74b9df28ec36c2b883ae732da59b5", func := "nomenclator/nomenclatorlaw09.SqueezeSound", spec := "squeezeSound", apart := false, narrowed := true }
def SqueezeSoundUptoSaid : Prop := squeezeSoundUptoRow.holds Try.pinned (OpenSpec.upto squeezeSoundSpec)

/-- 'nomenclatorlaw09.SqueezeBack', WHERE WHAT IT READS IS OF BULK AT MOST 1048576: true; the input reads as it did. -/
def squeezeBackUptoRow : OpenClaim := { program := "ytndpebhhgicooaa", sum := "10925e0a2efe8f127d29af9fb71d2e17d9b74b9df28ec36c2b883ae732da59b5", func := "nomenclator/nomenclatorlaw09.SqueezeBack", spec := "squeezeBack", apart := false, narrowed := true }
def SqueezeBackUptoSaid : Prop := squeezeBackUptoRow.holds Try.pinned (OpenSpec.upto squeezeBackSpec)

/-- 'nomenclatorlaw09.SqueezeNone', WHERE WHAT IT READS IS OF BULK AT MOST 1048576: true; the input reads as it did. -/
def squeezeNoneUptoRow : OpenClaim := { program := "ytndpebhhgicooaa", sum := "10925e0a2efe8f127d29af9fb71d2e17d9b74b9df28ec36c2b883ae732da59b5", func := "nomenclator/nomenclatorlaw09.SqueezeNone", spec := "squeezeNone", apart := false, narrowed := true }
def SqueezeNoneUptoSaid : Prop := squeezeNoneUptoRow.holds Try.pinned (OpenSpec.upto squeezeNoneSpec)

/-- 'nomenclatorlaw09.SqueezeKnown', WHERE WHAT IT READS IS OF BULK AT MOST 1048576: true; the input reads as it did. -/
def squeezeKnownUptoRow : OpenClaim := { program := "ytndpebhhgicooaa", sum := "10925e0a2efe8f127d29af9fb71d2e17d9b74b9df28ec36c2b883ae732da59b5", func := "nomenclator/nomenclatorlaw09.SqueezeKnown", spec := "squeezeKnown", apart := false, narrowed := true }
def SqueezeKnownUptoSaid : Prop := squeezeKnownUptoRow.holds Try.pinned (OpenSpec.upto squeezeKnownSpec)

end Rows
end Go.Proofs.Ytndpebhhgicooaa
