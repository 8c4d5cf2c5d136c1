/-
  No cell of these rows narrows 'for every input' (looked for: loops, veiled, ifaces, maps, wideKeys, modest, calm, conditions, laid).
  DERIVED. THE GIVEN ROWS OF THIS SEAT. 5 by the template 'for every input the law returns true; each argument reads behind the call as it read before'; 0 by the template 'total and deterministic' (their statements: YthdnbipfdahnlaaTotals.lean).
  GIVEN WITH THE SEED: the statements are not yours to turn. If you find one false, say at which input.
  Laid BY PROGRAM, IN A SANDBOX (cutbox-rows.mjs): the forced cells as the released guide's own fill.sh prints them over the translation ecd5b8a0fd8732ba… (all of the seat's roots in one cut). By AI agents, Wed Nov 11 2026. No macro, syntax, notation, axiom, sorry.
-/
import Derived.Test.YthdnbipfdahnlaaChecked
import GoSem.Claim
import GoSem.ClaimJoined
import GoSem.ClaimMapViews
import Derived.JoinedTies
import Derived.KernelRfl
namespace Go.Proofs.Ythdnbipfdahnlaa
/- THE CELL 'sum', in the pinned program and in every row, IS THE sha256 OF THE DUMP (.gsa) THAT YthdnbipfdahnlaaProg.lean LOADS. Nothing in Lean hashes anything: it is a label: what it is worth is what the hold of that sum in a sandbox is worth. -/
noncomputable def Try.pinned : Pinned := { name := "ythdnbipfdahnlaa", sum := "ecd5b8a0fd8732ba2e6200cb82e16bb2b50f60f06802f9790c5f2330833e3985", checked := Try.checked }
namespace Rows
def none {H : Type} : Left H := { results := [], args := [] }

/-- 'nomenclatorlaw23.NetPieces': WHATEVER THE INPUT: true; the input reads as it did. -/
def netPiecesSpec : ChangeSpec := { name := "netPieces", fn := fun _ => fun
  | [d1, d2, d3] => { results := [.lit (.bool true)], args := [d1, d2, d3] }
  | _ => none }
def netPiecesRow : OpenClaim := { program := "ythdnbipfdahnlaa", sum := "ecd5b8a0fd8732ba2e6200cb82e16bb2b50f60f06802f9790c5f2330833e3985", func := "nomenclator/nomenclatorlaw23.NetPieces", spec := "netPieces", inPlace := ["slices.overlaps[nomenclator/api.Flight]"], unfollowed := true, recurses := true, apart := false }
def NetPiecesSaid : Prop := netPiecesRow.holds Try.pinned (OpenSpec.ofChange netPiecesSpec)

/-- ITS FALSE NEIGHBOUR: 'it returns false'. Refute it at one input. -/
def netPiecesWrong : ChangeSpec := { name := "netPieces", fn := fun _ => fun
  | [d1, d2, d3] => { results := [.lit (.bool false)], args := [d1, d2, d3] }
  | _ => none }
def NetPiecesWrongFalsely : Prop := netPiecesRow.holds Try.pinned (OpenSpec.ofChange netPiecesWrong)

/-- 'nomenclatorlaw23.NetKeeps': WHATEVER THE INPUT: true; the input reads as it did. -/
def netKeepsSpec : ChangeSpec := { name := "netKeeps", fn := fun _ => fun
  | [d1, d2, d3] => { results := [.lit (.bool true)], args := [d1, d2, d3] }
  | _ => none }
def netKeepsRow : OpenClaim := { program := "ythdnbipfdahnlaa", sum := "ecd5b8a0fd8732ba2e6200cb82e16bb2b50f60f06802f9790c5f2330833e3985", func := "nomenclator/nomenclatorlaw23.NetKeeps", spec := "netKeeps", inPlace := ["slices.overlaps[nomenclator/api.Flight]"], unfollowed := true, recurses := true, apart := false }
def NetKeepsSaid : Prop := netKeepsRow.holds Try.pinned (OpenSpec.ofChange netKeepsSpec)

/-- ITS FALSE NEIGHBOUR: 'it returns false'. Refute it at one input. -/
def netKeepsWrong : ChangeSpec := { name := "netKeeps", fn := fun _ => fun
  | [d1, d2, d3] => { results := [.lit (.bool false)], args := [d1, d2, d3] }
  | _ => none }
def NetKeepsWrongFalsely : Prop := netKeepsRow.holds Try.pinned (OpenSpec.ofChange netKeepsWrong)

/-- 'nomenclatorlaw23.NetKnown': WHATEVER THE INPUT: true; the input reads as it did. -/
def netKnownSpec : ChangeSpec := { name := "netKnown", fn := fun _ => fun
  | [] => { results := [.lit (.bool true)], args := [] }
  | _ => none }
def netKnownRow : OpenClaim := { program := "ythdnbipfdahnlaa", sum := "ecd5b8a0fd8732ba2e6200cb82e16bb2b50f60f06802f9790c5f2330833e3985", func := "nomenclator/nomenclatorlaw23.NetKnown", spec := "netKnown", inPlace := ["slices.overlaps[nomenclator/api.Flight]"], unfollowed := true, recurses := true, apart := false }
def NetKnownSaid : Prop := netKnownRow.holds Try.pinned (OpenSpec.ofChange netKnownSpec)

/-- ITS FALSE NEIGHBOUR: 'it returns false'. Refute it at one input. -/
def netKnownWrong : ChangeSpec := { name := "netKnown", fn := fun _ => fun
  | [] => { results := [.lit (.bool false)], args := [] }
  | _ => none }
def NetKnownWrongFalsely : Prop := netKnownRow.holds Try.pinned (OpenSpec.ofChange netKnownWrong)

/-- 'nomenclatorlaw23.NetScript': WHATEVER THE INPUT: true; the input reads as it did. -/
def netScriptSpec : ChangeSpec := { name := "netScript", fn := fun _ => fun
  | [d1, d2] => { results := [.lit (.bool true)], args := [d1, d2] }
  | _ => none }
def netScriptRow : OpenClaim := { program := "ythdnbipfdahnlaa", sum := "ecd5b8a0fd8732ba2e6200cb82e16bb2b50f60f06802f9790c5f2330833e3985", func := "nomenclator/nomenclatorlaw23.NetScript", spec := "netScript", inPlace := ["slices.overlaps[nomenclator/api.Flight]"], unfollowed := true, recurses := true, apart := false }
def NetScriptSaid : Prop := netScriptRow.holds Try.pinned (OpenSpec.ofChange netScriptSpec)

/-- ITS FALSE NEIGHBOUR: 'it returns false'. Refute it at one input. -/
def netScriptWrong : ChangeSpec := { name := "netScript", fn := fun _ => fun
  | [d1, d2] => { results := [.lit (.bool false)], args := [d1, d2] }
  | _ => none }
def NetScriptWrongFalsely : Prop := netScriptRow.holds Try.pinned (OpenSpec.ofChange netScriptWrong)

/-- 'nomenclatorlaw23.NetNone': WHATEVER THE INPUT: true; the input reads as it did. -/
def netNoneSpec : ChangeSpec := { name := "netNone", fn := fun _ => fun
  | [d1, d2] => { results := [.lit (.bool true)], args := [d1, d2] }
  | _ => none }
def netNoneRow : OpenClaim := { program := "ythdnbipfdahnlaa", sum := "ecd5b8a0fd8732ba2e6200cb82e16bb2b50f60f06802f9790c5f2330833e3985", func := "nomenclator/nomenclatorlaw23.NetNone", spec := "netNone", inPlace := ["slices.overlaps[nomenclator/api.Flight]"], unfollowed := true, recurses := true, apart := false }
def NetNoneSaid : Prop := netNoneRow.holds Try.pinned (OpenSpec.ofChange netNoneSpec)

/-- ITS FALSE NEIGHBOUR: 'it returns false'. Refute it at one input. -/
def netNoneWrong : ChangeSpec := { name := "netNone", fn := fun _ => fun
  | [d1, d2] => { results := [.lit (.bool false)], args := [d1, d2] }
  | _ => none }
def NetNoneWrongFalsely : Prop := netNoneRow.holds Try.pinned (OpenSpec.ofChange netNoneWrong)

/- THE SECOND FORM. 'bulk': how many values and letters a reading holds, each counted each time it is reached (what is shared counts as often as it is met; a slice's spare places count too). A statement '..UptoSaid' is the law's where the arguments, and the package variables that the reading takes, are together of bulk at most 1048576: NARROWER than '..Said'. Prove '..Said' where nothing that the law and all that it calls make is longer than what came in: it says more and counts as full. Else prove '..UptoSaid'. A law counts once. -/
mutual
def uptoBulk {H : Type} : DataW H → Nat
  | .lit (.string bytes) => bytes.length + 1
  | .lit _ => 1
  | .nil => 1
  | .ptr d => uptoBulk d + 1
  | .slice elems spare => uptoBulkAll elems + uptoBulkAll spare + 1
  | .agg parts => uptoBulkAll parts + 1
  | .iface _ d => uptoBulk d + 1
  | .map entries => uptoBulkEntries entries + 1
  | .held _ => 1
def uptoBulkAll {H : Type} : List (DataW H) → Nat
  | [] => 0
  | d :: r => uptoBulk d + uptoBulkAll r
def uptoBulkEntries {H : Type} : List (Lit × DataW H) → Nat
  | [] => 0
  | x :: r => uptoBulkEntry x + uptoBulkEntries r
def uptoBulkEntry {H : Type} : Lit × DataW H → Nat
  | (.string bytes, d) => bytes.length + uptoBulk d + 1
  | (_, d) => uptoBulk d + 1
 end
def uptoSmall : (H : Type) → List (DataW H) → Bool := fun _ ds => decide (uptoBulkAll ds ≤ 1048576)
def OpenSpec.upto (s : _root_.Go.ChangeSpec) : _root_.Go.OpenSpec := { _root_.Go.OpenSpec.ofChange s with cond := some uptoSmall }

/-- 'nomenclatorlaw23.NetPieces', WHERE WHAT IT READS IS OF BULK AT MOST 1048576: true; the input reads as it did. -/
def netPiecesUptoRow : OpenClaim := { program := "ythdnbipfdahnlaa", sum := "ecd5b8a0fd8732ba2e6200cb82e16bb2b50f60f06802f9790c5f2330833e3985", func := "nomenclator/nomenclatorlaw23.NetPieces", spec := "netPieces", inPlace := ["slices.overlaps[nomenclator/api.Flight]"], unfollowed := true, recurses := true, apart := false, narrowed := true }
def NetPiecesUptoSaid : Prop := netPiecesUptoRow.holds Try.pinned (OpenSpec.upto netPiecesSpec)

/-- 'nomenclatorlaw23.NetKeeps', WHERE WHAT IT READS IS OF BULK AT MOST 1048576: true; the input reads as it did. -/
def netKeepsUptoRow : OpenClaim := { program := "ythdnbipfdahnlaa", sum := "ecd5b8a0fd8732ba2e6200cb82e16bb2b50f60f06802f9790c5f2330833e3985", func := "nomenclator/nomenclatorlaw23.NetKeeps", spec := "netKeeps", inPlace := ["slices.overlaps[nomenclator/api.Flight]"], unfollowed := true, recurses := true, apart := false, narrowed := true }
def NetKeepsUptoSaid : Prop := netKeepsUptoRow.holds Try.pinned (OpenSpec.upto netKeepsSpec)

/-- 'nomenclatorlaw23.NetKnown', WHERE WHAT IT READS IS OF BULK AT MOST 1048576: true; the input reads as it did. -/
def netKnownUptoRow : OpenClaim := { program := "ythdnbipfdahnlaa", sum := "ecd5b8a0fd8732ba2e6200cb82e16bb2b50f60f06802f9790c5f2330833e3985", func := "nomenclator/nomenclatorlaw23.NetKnown", spec := "netKnown", inPlace := ["slices.overlaps[nomenclator/api.Flight]"], unfollowed := true, recurses := true, apart := false, narrowed := true }
def NetKnownUptoSaid : Prop := netKnownUptoRow.holds Try.pinned (OpenSpec.upto netKnownSpec)

/-- 'nomenclatorlaw23.NetScript', WHERE WHAT IT READS IS OF BULK AT MOST 1048576: true; the input reads as it did. -/
def netScriptUptoRow : OpenClaim := { program := "ythdnbipfdahnlaa", sum := "ecd5b8a0fd8732ba2e6200cb82e16bb2b50f60f06802f9790c5f2330833e3985", func := "nomenclator/nomenclatorlaw23.NetScript", spec := "netScript", inPlace := ["slices.overlaps[nomenclator/api.Flight]"], unfollowed := true, recurses := true, apart := false, narrowed := true }
def NetScriptUptoSaid : Prop := netScriptUptoRow.holds Try.pinned (OpenSpec.upto netScriptSpec)

/-- 'nomenclatorlaw23.NetNone', WHERE WHAT IT READS IS OF BULK AT MOST 1048576: true; the input reads as it did. -/
def netNoneUptoRow : OpenClaim := { program := "ythdnbipfdahnlaa", sum := "ecd5b8a0fd8732ba2e6200cb82e16bb2b50f60f06802f9790c5f2330833e3985", func := "nomenclator/nomenclatorlaw23.NetNone", spec := "netNone", inPlace := ["slices.overlaps[nomenclator/api.Flight]"], unfollowed := true, recurses := true, apart := false, narrowed := true }
def NetNoneUptoSaid : Prop := netNoneUptoRow.holds Try.pinned (OpenSpec.upto netNoneSpec)

end Rows
end Go.Proofs.Ythdnbipfdahnlaa
