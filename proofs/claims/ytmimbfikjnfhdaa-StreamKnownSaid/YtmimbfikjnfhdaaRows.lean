/-
  No cell of these rows narrows 'for every input' (looked for: loops, veiled, ifaces, maps, wideKeys, modest, calm, conditions, laid).
  DERIVED. THE GIVEN ROWS OF THIS SEAT. 7 by the template 'for every input the law returns true; each argument reads behind the call as it read before'; 0 by the template 'total and deterministic' (their statements: YtmimbfikjnfhdaaTotals.lean).
  GIVEN WITH THE SEED: the statements are not yours to turn. If you find one false, say at which input.
  Laid BY PROGRAM, IN A SANDBOX (cutbox-rows.mjs): the forced cells as the released guide's own fill.sh prints them over the translation 92ffe5fbc8aeddaf… (all of the seat's roots in one cut). By AI agents, Wed Nov 11 2026. No macro, syntax, notation, axiom, sorry.
-/
import Derived.Test.YtmimbfikjnfhdaaChecked
import GoSem.Claim
import GoSem.ClaimJoined
import GoSem.ClaimMapViews
import Derived.JoinedTies
import Derived.KernelRfl
namespace Go.Proofs.Ytmimbfikjnfhdaa
/- THE CELL 'sum', in the pinned program and in every row, IS THE sha256 OF THE DUMP (.gsa) THAT YtmimbfikjnfhdaaProg.lean LOADS. Nothing in Lean hashes anything: it is a label: what it is worth is what the hold of that sum in a sandbox is worth. -/
noncomputable def Try.pinned : Pinned := { name := "ytmimbfikjnfhdaa", sum := "92ffe5fbc8aeddafc5bc24595c6f30258089887d180c90473e24e9b53d8a3064", checked := Try.checked }
namespace Rows
def none {H : Type} : Left H := { results := [], args := [] }

/-- 'nomenclatorlaw24.StreamPipe': WHATEVER THE INPUT: true; the input reads as it did. -/
def streamPipeSpec : ChangeSpec := { name := "streamPipe", fn := fun _ => fun
  | [d1, d2] => { results := [.lit (.bool true)], args := [d1, d2] }
  | _ => none }
def streamPipeRow : OpenClaim := { program := "ytmimbfikjnfhdaa", sum := "92ffe5fbc8aeddafc5bc24595c6f30258089887d180c90473e24e9b53d8a3064", func := "nomenclator/nomenclatorlaw24.StreamPipe", spec := "streamPipe", unfollowed := true, recurses := true, apart := false }
def StreamPipeSaid : Prop := streamPipeRow.holds Try.pinned (OpenSpec.ofChange streamPipeSpec)

/-- ITS FALSE NEIGHBOUR: 'it returns false'. Refute it at one input. -/
def streamPipeWrong : ChangeSpec := { name := "streamPipe", fn := fun _ => fun
  | [d1, d2] => { results := [.lit (.bool false)], args := [d1, d2] }
  | _ => none }
def StreamPipeWrongFalsely : Prop := streamPipeRow.holds Try.pinned (OpenSpec.ofChange streamPipeWrong)

/-- 'nomenclatorlaw24.StreamFeeds': WHATEVER THE INPUT: true; the input reads as it did. -/
def streamFeedsSpec : ChangeSpec := { name := "streamFeeds", fn := fun _ => fun
  | [d1, d2] => { results := [.lit (.bool true)], args := [d1, d2] }
  | _ => none }
def streamFeedsRow : OpenClaim := { program := "ytmimbfikjnfhdaa", sum := "92ffe5fbc8aeddafc5bc24595c6f30258089887d180c90473e24e9b53d8a3064", func := "nomenclator/nomenclatorlaw24.StreamFeeds", spec := "streamFeeds", apart := false }
def StreamFeedsSaid : Prop := streamFeedsRow.holds Try.pinned (OpenSpec.ofChange streamFeedsSpec)

/-- ITS FALSE NEIGHBOUR: 'it returns false'. Refute it at one input. -/
def streamFeedsWrong : ChangeSpec := { name := "streamFeeds", fn := fun _ => fun
  | [d1, d2] => { results := [.lit (.bool false)], args := [d1, d2] }
  | _ => none }
def StreamFeedsWrongFalsely : Prop := streamFeedsRow.holds Try.pinned (OpenSpec.ofChange streamFeedsWrong)

/-- 'nomenclatorlaw24.StreamCuts': WHATEVER THE INPUT: true; the input reads as it did. -/
def streamCutsSpec : ChangeSpec := { name := "streamCuts", fn := fun _ => fun
  | [d1, d2] => { results := [.lit (.bool true)], args := [d1, d2] }
  | _ => none }
def streamCutsRow : OpenClaim := { program := "ytmimbfikjnfhdaa", sum := "92ffe5fbc8aeddafc5bc24595c6f30258089887d180c90473e24e9b53d8a3064", func := "nomenclator/nomenclatorlaw24.StreamCuts", spec := "streamCuts", apart := false }
def StreamCutsSaid : Prop := streamCutsRow.holds Try.pinned (OpenSpec.ofChange streamCutsSpec)

/-- ITS FALSE NEIGHBOUR: 'it returns false'. Refute it at one input. -/
def streamCutsWrong : ChangeSpec := { name := "streamCuts", fn := fun _ => fun
  | [d1, d2] => { results := [.lit (.bool false)], args := [d1, d2] }
  | _ => none }
def StreamCutsWrongFalsely : Prop := streamCutsRow.holds Try.pinned (OpenSpec.ofChange streamCutsWrong)

/-- 'nomenclatorlaw24.StreamBreaks': WHATEVER THE INPUT: true; the input reads as it did. -/
def streamBreaksSpec : ChangeSpec := { name := "streamBreaks", fn := fun _ => fun
  | [d1, d2, d3] => { results := [.lit (.bool true)], args := [d1, d2, d3] }
  | _ => none }
def streamBreaksRow : OpenClaim := { program := "ytmimbfikjnfhdaa", sum := "92ffe5fbc8aeddafc5bc24595c6f30258089887d180c90473e24e9b53d8a3064", func := "nomenclator/nomenclatorlaw24.StreamBreaks", spec := "streamBreaks", apart := false }
def StreamBreaksSaid : Prop := streamBreaksRow.holds Try.pinned (OpenSpec.ofChange streamBreaksSpec)

/-- ITS FALSE NEIGHBOUR: 'it returns false'. Refute it at one input. -/
def streamBreaksWrong : ChangeSpec := { name := "streamBreaks", fn := fun _ => fun
  | [d1, d2, d3] => { results := [.lit (.bool false)], args := [d1, d2, d3] }
  | _ => none }
def StreamBreaksWrongFalsely : Prop := streamBreaksRow.holds Try.pinned (OpenSpec.ofChange streamBreaksWrong)

/-- 'nomenclatorlaw24.StreamNone': WHATEVER THE INPUT: true; the input reads as it did. -/
def streamNoneSpec : ChangeSpec := { name := "streamNone", fn := fun _ => fun
  | [d1, d2] => { results := [.lit (.bool true)], args := [d1, d2] }
  | _ => none }
def streamNoneRow : OpenClaim := { program := "ytmimbfikjnfhdaa", sum := "92ffe5fbc8aeddafc5bc24595c6f30258089887d180c90473e24e9b53d8a3064", func := "nomenclator/nomenclatorlaw24.StreamNone", spec := "streamNone", unfollowed := true, recurses := true, apart := false }
def StreamNoneSaid : Prop := streamNoneRow.holds Try.pinned (OpenSpec.ofChange streamNoneSpec)

/-- ITS FALSE NEIGHBOUR: 'it returns false'. Refute it at one input. -/
def streamNoneWrong : ChangeSpec := { name := "streamNone", fn := fun _ => fun
  | [d1, d2] => { results := [.lit (.bool false)], args := [d1, d2] }
  | _ => none }
def StreamNoneWrongFalsely : Prop := streamNoneRow.holds Try.pinned (OpenSpec.ofChange streamNoneWrong)

/-- 'nomenclatorlaw24.StreamOpen': WHATEVER THE INPUT: true; the input reads as it did. -/
def streamOpenSpec : ChangeSpec := { name := "streamOpen", fn := fun _ => fun
  | [d1, d2] => { results := [.lit (.bool true)], args := [d1, d2] }
  | _ => none }
def streamOpenRow : OpenClaim := { program := "ytmimbfikjnfhdaa", sum := "92ffe5fbc8aeddafc5bc24595c6f30258089887d180c90473e24e9b53d8a3064", func := "nomenclator/nomenclatorlaw24.StreamOpen", spec := "streamOpen", unfollowed := true, recurses := true, apart := false }
def StreamOpenSaid : Prop := streamOpenRow.holds Try.pinned (OpenSpec.ofChange streamOpenSpec)

/-- ITS FALSE NEIGHBOUR: 'it returns false'. Refute it at one input. -/
def streamOpenWrong : ChangeSpec := { name := "streamOpen", fn := fun _ => fun
  | [d1, d2] => { results := [.lit (.bool false)], args := [d1, d2] }
  | _ => none }
def StreamOpenWrongFalsely : Prop := streamOpenRow.holds Try.pinned (OpenSpec.ofChange streamOpenWrong)

/-- 'nomenclatorlaw24.StreamKnown': WHATEVER THE INPUT: true; the input reads as it did. -/
def streamKnownSpec : ChangeSpec := { name := "streamKnown", fn := fun _ => fun
  | [] => { results := [.lit (.bool true)], args := [] }
  | _ => none }
def streamKnownRow : OpenClaim := { program := "ytmimbfikjnfhdaa", sum := "92ffe5fbc8aeddafc5bc24595c6f30258089887d180c90473e24e9b53d8a3064", func := "nomenclator/nomenclatorlaw24.StreamKnown", spec := "streamKnown", unfollowed := true, recurses := true, apart := false }
def StreamKnownSaid : Prop := streamKnownRow.holds Try.pinned (OpenSpec.ofChange streamKnownSpec)

/-- ITS FALSE NEIGHBOUR: 'it returns false'. Refute it at one input. -/
def streamKnownWrong : ChangeSpec := { name := "streamKnown", fn := fun _ => fun
  | [] => { results := [.lit (.bool false)], args := [] }
  | _ => none }
def StreamKnownWrongFalsely : Prop := streamKnownRow.holds Try.pinned (OpenSpec.ofChange streamKnownWrong)

/- THE SECOND FORM. 'bulk': how many values and letters a reading holds, each counted each time it is reached (what is shared counts as often as it is met; a slice's spare places count too). A statement '..UptoSaid' is the law's where the arguments, and the package variables that the reading takes, are together of bulk at most 1048576: NARROWER than '..Said'. Prove '..Said' where nothing that the law and all that it calls make is longer than what came in: it says more and counts as full. Else prove '..UptoSaid'. A law counts once. -/
mutual
def uptoBulk {H : Type} : DataW H → Nat
  | .lit (.string bytes) => bytes.length + 1
  | .lit _ => 1
  | .nil => 1
  | .ptr d => uptoBulk d + 1
  | .slice elems spare => uptoBulkAll elems + uptoBulkAll spare + 1
  | .agg parts => uptoBulkAll parts + 1
  | .iface _ d => uptoBulk d + 1
  | .map entries => uptoBulkEntries entries + 1
  | .held _ => 1
def uptoBulkAll {H : Type} : List (DataW H) → Nat
  | [] => 0
  | d :: r => uptoBulk d + uptoBulkAll r
def uptoBulkEntries {H : Type} : List (Lit × DataW H) → Nat
  | [] => 0
  | x :: r => uptoBulkEntry x + uptoBulkEntries r
def uptoBulkEntry {H : Type} : Lit × DataW H → Nat
  | (.string bytes, d) => bytes.length + uptoBulk d + 1
  | (_, d) => uptoBulk d + 1
 end
def uptoSmall : (H : Type) → List (DataW H) → Bool := fun _ ds => decide (uptoBulkAll ds ≤ 1048576)
def OpenSpec.upto (s : _root_.Go.ChangeSpec) : _root_.Go.OpenSpec := { _root_.Go.OpenSpec.ofChange s with cond := some uptoSmall }

/-- 'nomenclatorlaw24.StreamPipe', WHERE WHAT IT READS IS OF BULK AT MOST 1048576: true; the input reads as it did. -/
def streamPipeUptoRow : OpenClaim := { program := "ytmimbfikjnfhdaa", sum := "92ffe5fbc8aeddafc5bc24595c6f30258089887d180c90473e24e9b53d8a3064", func := "nomenclator/nomenclatorlaw24.StreamPipe", spec := "streamPipe", unfollowed := true, recurses := true, apart := false, narrowed := true }
def StreamPipeUptoSaid : Prop := streamPipeUptoRow.holds Try.pinned (OpenSpec.upto streamPipeSpec)

/-- 'nomenclatorlaw24.StreamFeeds', WHERE WHAT IT READS IS OF BULK AT MOST 1048576: true; the input reads as it did. -/
def streamFeedsUptoRow : OpenClaim := { program := "ytmimbfikjnfhdaa", sum := "92ffe5fbc8aeddafc5bc24595c6f30258089887d180c90473e24e9b53d8a3064", func := "nomenclator/nomenclatorlaw24.StreamFeeds", spec := "streamFeeds", apart := false, narrowed := true }
def StreamFeedsUptoSaid : Prop := streamFeedsUptoRow.holds Try.pinned (OpenSpec.upto streamFeedsSpec)

/-- 'nomenclatorlaw24.StreamCuts', WHERE WHAT IT READS IS OF BULK AT MOST 1048576: true; the input reads as it did. -/
def streamCutsUptoRow : OpenClaim := { program := "ytmimbfikjnfhdaa", sum := "92ffe5fbc8aeddafc5bc24595c6f30258089887d180c90473e24e9b53d8a3064", func := "nomenclator/nomenclatorlaw24.StreamCuts", spec := "streamCuts", apart := false, narrowed := true }
def StreamCutsUptoSaid : Prop := streamCutsUptoRow.holds Try.pinned (OpenSpec.upto streamCutsSpec)

/-- 'nomenclatorlaw24.StreamBreaks', WHERE WHAT IT READS IS OF BULK AT MOST 1048576: true; the input reads as it did. -/
def streamBreaksUptoRow : OpenClaim := { program := "ytmimbfikjnfhdaa", sum := "92ffe5fbc8aeddafc5bc24595c6f30258089887d180c90473e24e9b53d8a3064", func := "nomenclator/nomenclatorlaw24.StreamBreaks", spec := "streamBreaks", apart := false, narrowed := true }
def StreamBreaksUptoSaid : Prop := streamBreaksUptoRow.holds Try.pinned (OpenSpec.upto streamBreaksSpec)

/-- 'nomenclatorlaw24.StreamNone', WHERE WHAT IT READS IS OF BULK AT MOST 1048576: true; the input reads as it did. -/
def streamNoneUptoRow : OpenClaim := { program := "ytmimbfikjnfhdaa", sum := "92ffe5fbc8aeddafc5bc24595c6f30258089887d180c90473e24e9b53d8a3064", func := "nomenclator/nomenclatorlaw24.StreamNone", spec := "streamNone", unfollowed := true, recurses := true, apart := false, narrowed := true }
def StreamNoneUptoSaid : Prop := streamNoneUptoRow.holds Try.pinned (OpenSpec.upto streamNoneSpec)

/-- 'nomenclatorlaw24.StreamOpen', WHERE WHAT IT READS IS OF BULK AT MOST 1048576: true; the input reads as it did. -/
def streamOpenUptoRow : OpenClaim := { program := "ytmimbfikjnfhdaa", sum := "92ffe5fbc8aeddafc5bc24595c6f30258089887d180c90473e24e9b53d8a3064", func := "nomenclator/nomenclatorlaw24.StreamOpen", spec := "streamOpen", unfollowed := true, recurses := true, apart := false, narrowed := true }
def StreamOpenUptoSaid : Prop := streamOpenUptoRow.holds Try.pinned (OpenSpec.upto streamOpenSpec)

/-- 'nomenclatorlaw24.StreamKnown', WHERE WHAT IT READS IS OF BULK AT MOST 1048576: true; the input reads as it did. -/
def streamKnownUptoRow : OpenClaim := { program := "ytmimbfikjnfhdaa", sum := "92ffe5fbc8aeddafc5bc24595c6f30258089887d180c90473e24e9b53d8a3064", func := "nomenclator/nomenclatorlaw24.StreamKnown", spec := "streamKnown", unfollowed := true, recurses := true, apart := false, narrowed := true }
def StreamKnownUptoSaid : Prop := streamKnownUptoRow.holds Try.pinned (OpenSpec.upto streamKnownSpec)

end Rows
end Go.Proofs.Ytmimbfikjnfhdaa
