/-
  No cell of these rows narrows 'for every input' (looked for: loops, veiled, ifaces, maps, wideKeys, modest, calm, conditions, laid).
  DERIVED. THE GIVEN ROWS OF THIS SEAT. 5 by the template 'for every input the law returns true; each argument reads behind the call as it read before'; 0 by the template 'total and deterministic' (their statements: YtbpkhnnfdjihdaaTotals.lean).
  GIVEN WITH THE SEED: the statements are not yours to turn. If you find one false, say at which input.
  Laid BY PROGRAM, IN A SANDBOX (cutbox-rows.mjs): the forced cells as the released guide's own fill.sh prints them over the translation 2724ee51a8ca32e5… (all of the seat's roots in one cut). By AI agents, Wed Nov 11 2026. No macro, syntax, notation, axiom, sorry.
-/
import Derived.Test.YtbpkhnnfdjihdaaChecked
import GoSem.Claim
import GoSem.ClaimJoined
import GoSem.ClaimMapViews
import Derived.JoinedTies
import Derived.KernelRfl
namespace Go.Proofs.Ytbpkhnnfdjihdaa
/- THE CELL 'sum', in the pinned program and in every row, IS THE sha256 OF THE DUMP (.gsa) THAT YtbpkhnnfdjihdaaProg.lean LOADS. Nothing in Lean hashes anything: it is a label: what it is worth is what the hold of that sum in a sandbox is worth. -/
noncomputable def Try.pinned : Pinned := { name := "ytbpkhnnfdjihdaa", sum := "2724ee51a8ca32e52c51352ef1b8091a83569f51b3d4a5944a8e86d1ed4a912d", checked := Try.checked }
namespace Rows
def none {H : Type} : Left H := { results := [], args := [] }

/-- 'nomenclatorlaw08.HeaderReads': WHATEVER THE INPUT: true; the input reads as it did. -/
def headerReadsSpec : ChangeSpec := { name := "headerReads", fn := fun _ => fun
  | [d] => { results := [.lit (.bool true)], args := [d] }
  | _ => none }
def headerReadsRow : OpenClaim := { program := "ytbpkhnnfdjihdaa", sum := "2724ee51a8ca32e52c51352ef1b8091a83569f51b3d4a5944a8e86d1ed4a912d", func := "nomenclator/nomenclatorlaw08.HeaderReads", spec := "headerReads", apart := false }
def HeaderReadsSaid : Prop := headerReadsRow.holds Try.pinned (OpenSpec.ofChange headerReadsSpec)

/-- ITS FALSE NEIGHBOUR: 'it returns false'. Refute it at one input. -/
def headerReadsWrong : ChangeSpec := { name := "headerReads", fn := fun _ => fun
  | [d] => { results := [.lit (.bool false)], args := [d] }
  | _ => none }
def HeaderReadsWrongFalsely : Prop := headerReadsRow.holds Try.pinned (OpenSpec.ofChange headerReadsWrong)

/-- 'nomenclatorlaw08.HeaderBack': WHATEVER THE INPUT: true; the input reads as it did. -/
def headerBackSpec : ChangeSpec := { name := "headerBack", fn := fun _ => fun
  | [d1, d2, d3] => { results := [.lit (.bool true)], args := [d1, d2, d3] }
  | _ => none }
def headerBackRow : OpenClaim := { program := "ytbpkhnnfdjihdaa", sum := "2724ee51a8ca32e52c51352ef1b8091a83569f51b3d4a5944a8e86d1ed4a912d", func := "nomenclator/nomenclatorlaw08.HeaderBack", spec := "headerBack", apart := false }
def HeaderBackSaid : Prop := headerBackRow.holds Try.pinned (OpenSpec.ofChange headerBackSpec)

/-- ITS FALSE NEIGHBOUR: 'it returns false'. Refute it at one input. -/
def headerBackWrong : ChangeSpec := { name := "headerBack", fn := fun _ => fun
  | [d1, d2, d3] => { results := [.lit (.bool false)], args := [d1, d2, d3] }
  | _ => none }
def HeaderBackWrongFalsely : Prop := headerBackRow.holds Try.pinned (OpenSpec.ofChange headerBackWrong)

/-- 'nomenclatorlaw08.HeaderTells': WHATEVER THE INPUT: true; the input reads as it did. -/
def headerTellsSpec : ChangeSpec := { name := "headerTells", fn := fun _ => fun
  | [d1, d2, d3] => { results := [.lit (.bool true)], args := [d1, d2, d3] }
  | _ => none }
def headerTellsRow : OpenClaim := { program := "ytbpkhnnfdjihdaa", sum := "2724ee51a8ca32e52c51352ef1b8091a83569f51b3d4a5944a8e86d1ed4a912d", func := "nomenclator/nomenclatorlaw08.HeaderTells", spec := "headerTells", unfollowed := true, recurses := true, apart := false }
def HeaderTellsSaid : Prop := headerTellsRow.holds Try.pinned (OpenSpec.ofChange headerTellsSpec)

/-- ITS FALSE NEIGHBOUR: 'it returns false'. Refute it at one input. -/
def headerTellsWrong : ChangeSpec := { name := "headerTells", fn := fun _ => fun
  | [d1, d2, d3] => { results := [.lit (.bool false)], args := [d1, d2, d3] }
  | _ => none }
def HeaderTellsWrongFalsely : Prop := headerTellsRow.holds Try.pinned (OpenSpec.ofChange headerTellsWrong)

/-- 'nomenclatorlaw08.HeaderAnswers': WHATEVER THE INPUT: true; the input reads as it did. -/
def headerAnswersSpec : ChangeSpec := { name := "headerAnswers", fn := fun _ => fun
  | [d1, d2, d3] => { results := [.lit (.bool true)], args := [d1, d2, d3] }
  | _ => none }
def headerAnswersRow : OpenClaim := { program := "ytbpkhnnfdjihdaa", sum := "2724ee51a8ca32e52c51352ef1b8091a83569f51b3d4a5944a8e86d1ed4a912d", func := "nomenclator/nomenclatorlaw08.HeaderAnswers", spec := "headerAnswers", unfollowed := true, recurses := true, apart := false }
def HeaderAnswersSaid : Prop := headerAnswersRow.holds Try.pinned (OpenSpec.ofChange headerAnswersSpec)

/-- ITS FALSE NEIGHBOUR: 'it returns false'. Refute it at one input. -/
def headerAnswersWrong : ChangeSpec := { name := "headerAnswers", fn := fun _ => fun
  | [d1, d2, d3] => { results := [.lit (.bool false)], args := [d1, d2, d3] }
  | _ => none }
def HeaderAnswersWrongFalsely : Prop := headerAnswersRow.holds Try.pinned (OpenSpec.ofChange headerAnswersWrong)

/-- 'nomenclatorlaw08.HeaderKnown': WHATEVER THE INPUT: true; the input reads as it did. -/
def headerKnownSpec : ChangeSpec := { name := "headerKnown", fn := fun _ => fun
  | [] => { results := [.lit (.bool true)], args := [] }
  | _ => none }
def headerKnownRow : OpenClaim := { program := "ytbpkhnnfdjihdaa", sum := "2724ee51a8ca32e52c51352ef1b8091a83569f51b3d4a5944a8e86d1ed4a912d", func := "nomenclator/nomenclatorlaw08.HeaderKnown", spec := "headerKnown", unfollowed := true, recurses := true, apart := false }
def HeaderKnownSaid : Prop := headerKnownRow.holds Try.pinned (OpenSpec.ofChange headerKnownSpec)

/-- ITS FALSE NEIGHBOUR: 'it returns false'. Refute it at one input. -/
def headerKnownWrong : ChangeSpec := { name := "headerKnown", fn := fun _ => fun
  | [] => { results := [.lit (.bool false)], args := [] }
  | _ => none }
def HeaderKnownWrongFalsely : Prop := headerKnownRow.holds Try.pinned (OpenSpec.ofChange headerKnownWrong)

/- THE SECOND FORM. 'bulk': how many values and letters a reading holds, each counted each time it is reached (what is shared counts as often as it is met; a slice's spare places count too). A statement '..UptoSaid' is the law's where the arguments, and the package variables that the reading takes, are together of bulk at most 1048576: NARROWER than '..Said'. Prove '..Said' where nothing that the law and all that it calls make is longer than what came in: it says more and counts as full. Else prove '..UptoSaid'. A law counts once. -/
mutual
def uptoBulk {H : Type} : DataW H → Nat
  | .lit (.string bytes) => bytes.length + 1
  | .lit _ => 1
  | .nil => 1
  | .ptr d => uptoBulk d + 1
  | .slice elems spare => uptoBulkAll elems + uptoBulkAll spare + 1
  | .agg parts => uptoBulkAll parts + 1
  | .iface _ d => uptoBulk d + 1
  | .map entries => uptoBulkEntries entries + 1
  | .held _ => 1
def uptoBulkAll {H : Type} : List (DataW H) → Nat
  | [] => 0
  | d :: r => uptoBulk d + uptoBulkAll r
def uptoBulkEntries {H : Type} : List (Lit × DataW H) → Nat
  | [] => 0
  | x :: r => uptoBulkEntry x + uptoBulkEntries r
def uptoBulkEntry {H : Type} : Lit × DataW H → Nat
  | (.string bytes, d) => bytes.length + uptoBulk d + 1
  | (_, d) => uptoBulk d + 1
 end
def uptoSmall : (H : Type) → List (DataW H) → Bool := fun _ ds => decide (uptoBulkAll ds ≤ 1048576)
def OpenSpec.upto (s : _root_.Go.ChangeSpec) : _root_.Go.OpenSpec := { _root_.Go.OpenSpec.ofChange s with cond := some uptoSmall }

/-- 'nomenclatorlaw08.HeaderReads', WHERE WHAT IT READS IS OF BULK AT MOST 1048576: true; the input reads as it did. -/
def headerReadsUptoRow : OpenClaim := { program := "ytbpkhnnfdjihdaa", sum := "2724ee51a8ca32e52c51352ef1b8091a83569f51b3d4a5944a8e86d1ed4a912d", func := "nomenclator/nomenclatorlaw08.HeaderReads", spec := "headerReads", apart := false, narrowed := true }
def HeaderReadsUptoSaid : Prop := headerReadsUptoRow.holds Try.pinned (OpenSpec.upto headerReadsSpec)

/-- 'nomenclatorlaw08.HeaderBack', WHERE WHAT IT READS IS OF BULK AT MOST 1048576: true; the input reads as it did. -/
def headerBackUptoRow : OpenClaim := { program := "ytbpkhnnfdjihdaa", sum := "2724ee51a8ca32e52c51352ef1b8091a83569f51b3d4a5944a8e86d1ed4a912d", func := "nomenclator/nomenclatorlaw08.HeaderBack", spec := "headerBack", apart := false, narrowed := true }
def HeaderBackUptoSaid : Prop := headerBackUptoRow.holds Try.pinned (OpenSpec.upto headerBackSpec)

/-- 'nomenclatorlaw08.HeaderTells', WHERE WHAT IT READS IS OF BULK AT MOST 1048576: true; the input reads as it did. -/
def headerTellsUptoRow : OpenClaim := { program := "ytbpkhnnfdjihdaa", sum := "2724ee51a8ca32e52c51352ef1b8091a83569f51b3d4a5944a8e86d1ed4a912d", func := "nomenclator/nomenclatorlaw08.HeaderTells", spec := "headerTells", unfollowed := true, recurses := true, apart := false, narrowed := true }
def HeaderTellsUptoSaid : Prop := headerTellsUptoRow.holds Try.pinned (OpenSpec.upto headerTellsSpec)

/-- 'nomenclatorlaw08.HeaderAnswers', WHERE WHAT IT READS IS OF BULK AT MOST 1048576: true; the input reads as it did. -/
def headerAnswersUptoRow : OpenClaim := { program := "ytbpkhnnfdjihdaa", sum := "2724ee51a8ca32e52c51352ef1b8091a83569f51b3d4a5944a8e86d1ed4a912d", func := "nomenclator/nomenclatorlaw08.HeaderAnswers", spec := "headerAnswers", unfollowed := true, recurses := true, apart := false, narrowed := true }
def HeaderAnswersUptoSaid : Prop := headerAnswersUptoRow.holds Try.pinned (OpenSpec.upto headerAnswersSpec)

/-- 'nomenclatorlaw08.HeaderKnown', WHERE WHAT IT READS IS OF BULK AT MOST 1048576: true; the input reads as it did. -/
def headerKnownUptoRow : OpenClaim := { program := "ytbpkhnnfdjihdaa", sum := "2724ee51a8ca32e52c51352ef1b8091a83569f51b3d4a5944a8e86d1ed4a912d", func := "nomenclator/nomenclatorlaw08.HeaderKnown", spec := "headerKnown", unfollowed := true, recurses := true, apart := false, narrowed := true }
def HeaderKnownUptoSaid : Prop := headerKnownUptoRow.holds Try.pinned (OpenSpec.upto headerKnownSpec)

end Rows
end Go.Proofs.Ytbpkhnnfdjihdaa
