/-
  No cell of these rows narrows 'for every input' (looked for: loops, veiled, ifaces, maps, wideKeys, modest, calm, conditions, laid).
  DERIVED. THE GIVEN ROWS OF THIS SEAT. 6 by the template 'for every input the law returns true; each argument reads behind the call as it read before'; 0 by the template 'total and deterministic' (their statements: YtjkeijjfjbcaiaaTotals.lean).
  GIVEN WITH THE SEED: the statements are not yours to turn. If you find one false, say at which input.
  Laid BY PROGRAM, IN A SANDBOX (cutbox-rows.mjs): the forced cells as the released guide's own fill.sh prints them over the translation 5f1abcb05e9d1060… (all of the seat's roots in one cut). By AI agents, Wed Nov 11 2026. No macro, syntax, notation, axiom, sorry.
-/
import Derived.Test.YtjkeijjfjbcaiaaChecked
import GoSem.Claim
import GoSem.ClaimJoined
import GoSem.ClaimMapViews
import Derived.JoinedTies
import Derived.KernelRfl
namespace Go.Proofs.Ytjkeijjfjbcaiaa
/- THE CELL 'sum', in the pinned program and in every row, IS THE sha256 OF THE DUMP (.gsa) THAT YtjkeijjfjbcaiaaProg.lean LOADS. Nothing in Lean hashes anything: it is a label: what it is worth is what the hold of that sum in a sandbox is worth. -/
noncomputable def Try.pinned : Pinned := { name := "ytjkeijjfjbcaiaa", sum := "5f1abcb05e9d10604e2ea7d56263df45eac8489b42e34ad25af7bf320b9cd38b", checked := Try.checked }
namespace Rows
def none {H : Type} : Left H := { results := [], args := [] }

/-- 'nomenclatorlaw26.PickSound': WHATEVER THE INPUT: true; the input reads as it did. -/
def pickSoundSpec : ChangeSpec := { name := "pickSound", fn := fun _ => fun
  | [d1, d2, d3, d4] => { results := [.lit (.bool true)], args := [d1, d2, d3, d4] }
  | _ => none }
def pickSoundRow : OpenClaim := { program := "ytjkeijjfjbcaiaa", sum := "5f1abcb05e9d10604e2ea7d56263df45eac8489b42e34ad25af7bf320b9cd38b", func := "nomenclator/nomenclatorlaw26.PickSound", spec := "pickSound", unfollowed := true, recurses := true, apart := false }
def PickSoundSaid : Prop := pickSoundRow.holds Try.pinned (OpenSpec.ofChange pickSoundSpec)

/-- ITS FALSE NEIGHBOUR: 'it returns false'. Refute it at one input. -/
def pickSoundWrong : ChangeSpec := { name := "pickSound", fn := fun _ => fun
  | [d1, d2, d3, d4] => { results := [.lit (.bool false)], args := [d1, d2, d3, d4] }
  | _ => none }
def PickSoundWrongFalsely : Prop := pickSoundRow.holds Try.pinned (OpenSpec.ofChange pickSoundWrong)

/-- 'nomenclatorlaw26.PickScript': WHATEVER THE INPUT: true; the input reads as it did. -/
def pickScriptSpec : ChangeSpec := { name := "pickScript", fn := fun _ => fun
  | [d1, d2] => { results := [.lit (.bool true)], args := [d1, d2] }
  | _ => none }
def pickScriptRow : OpenClaim := { program := "ytjkeijjfjbcaiaa", sum := "5f1abcb05e9d10604e2ea7d56263df45eac8489b42e34ad25af7bf320b9cd38b", func := "nomenclator/nomenclatorlaw26.PickScript", spec := "pickScript", unfollowed := true, recurses := true, apart := false }
def PickScriptSaid : Prop := pickScriptRow.holds Try.pinned (OpenSpec.ofChange pickScriptSpec)

/-- ITS FALSE NEIGHBOUR: 'it returns false'. Refute it at one input. -/
def pickScriptWrong : ChangeSpec := { name := "pickScript", fn := fun _ => fun
  | [d1, d2] => { results := [.lit (.bool false)], args := [d1, d2] }
  | _ => none }
def PickScriptWrongFalsely : Prop := pickScriptRow.holds Try.pinned (OpenSpec.ofChange pickScriptWrong)

/-- 'nomenclatorlaw26.PickNone': WHATEVER THE INPUT: true; the input reads as it did. -/
def pickNoneSpec : ChangeSpec := { name := "pickNone", fn := fun _ => fun
  | [d1, d2, d3] => { results := [.lit (.bool true)], args := [d1, d2, d3] }
  | _ => none }
def pickNoneRow : OpenClaim := { program := "ytjkeijjfjbcaiaa", sum := "5f1abcb05e9d10604e2ea7d56263df45eac8489b42e34ad25af7bf320b9cd38b", func := "nomenclator/nomenclatorlaw26.PickNone", spec := "pickNone", unfollowed := true, recurses := true, apart := false }
def PickNoneSaid : Prop := pickNoneRow.holds Try.pinned (OpenSpec.ofChange pickNoneSpec)

/-- ITS FALSE NEIGHBOUR: 'it returns false'. Refute it at one input. -/
def pickNoneWrong : ChangeSpec := { name := "pickNone", fn := fun _ => fun
  | [d1, d2, d3] => { results := [.lit (.bool false)], args := [d1, d2, d3] }
  | _ => none }
def PickNoneWrongFalsely : Prop := pickNoneRow.holds Try.pinned (OpenSpec.ofChange pickNoneWrong)

/-- 'nomenclatorlaw26.PickOthers': WHATEVER THE INPUT: true; the input reads as it did. -/
def pickOthersSpec : ChangeSpec := { name := "pickOthers", fn := fun _ => fun
  | [d1, d2, d3] => { results := [.lit (.bool true)], args := [d1, d2, d3] }
  | _ => none }
def pickOthersRow : OpenClaim := { program := "ytjkeijjfjbcaiaa", sum := "5f1abcb05e9d10604e2ea7d56263df45eac8489b42e34ad25af7bf320b9cd38b", func := "nomenclator/nomenclatorlaw26.PickOthers", spec := "pickOthers", unfollowed := true, recurses := true, apart := false }
def PickOthersSaid : Prop := pickOthersRow.holds Try.pinned (OpenSpec.ofChange pickOthersSpec)

/-- ITS FALSE NEIGHBOUR: 'it returns false'. Refute it at one input. -/
def pickOthersWrong : ChangeSpec := { name := "pickOthers", fn := fun _ => fun
  | [d1, d2, d3] => { results := [.lit (.bool false)], args := [d1, d2, d3] }
  | _ => none }
def PickOthersWrongFalsely : Prop := pickOthersRow.holds Try.pinned (OpenSpec.ofChange pickOthersWrong)

/-- 'nomenclatorlaw26.PickBounds': WHATEVER THE INPUT: true; the input reads as it did. -/
def pickBoundsSpec : ChangeSpec := { name := "pickBounds", fn := fun _ => fun
  | [d1, d2, d3] => { results := [.lit (.bool true)], args := [d1, d2, d3] }
  | _ => none }
def pickBoundsRow : OpenClaim := { program := "ytjkeijjfjbcaiaa", sum := "5f1abcb05e9d10604e2ea7d56263df45eac8489b42e34ad25af7bf320b9cd38b", func := "nomenclator/nomenclatorlaw26.PickBounds", spec := "pickBounds", unfollowed := true, recurses := true, apart := false }
def PickBoundsSaid : Prop := pickBoundsRow.holds Try.pinned (OpenSpec.ofChange pickBoundsSpec)

/-- ITS FALSE NEIGHBOUR: 'it returns false'. Refute it at one input. -/
def pickBoundsWrong : ChangeSpec := { name := "pickBounds", fn := fun _ => fun
  | [d1, d2, d3] => { results := [.lit (.bool false)], args := [d1, d2, d3] }
  | _ => none }
def PickBoundsWrongFalsely : Prop := pickBoundsRow.holds Try.pinned (OpenSpec.ofChange pickBoundsWrong)

/-- 'nomenclatorlaw26.PickKnown': WHATEVER THE INPUT: true; the input reads as it did. -/
def pickKnownSpec : ChangeSpec := { name := "pickKnown", fn := fun _ => fun
  | [] => { results := [.lit (.bool true)], args := [] }
  | _ => none }
def pickKnownRow : OpenClaim := { program := "ytjkeijjfjbcaiaa", sum := "5f1abcb05e9d10604e2ea7d56263df45eac8489b42e34ad25af7bf320b9cd38b", func := "nomenclator/nomenclatorlaw26.PickKnown", spec := "pickKnown", unfollowed := true, recurses := true, apart := false }
def PickKnownSaid : Prop := pickKnownRow.holds Try.pinned (OpenSpec.ofChange pickKnownSpec)

/-- ITS FALSE NEIGHBOUR: 'it returns false'. Refute it at one input. -/
def pickKnownWrong : ChangeSpec := { name := "pickKnown", fn := fun _ => fun
  | [] => { results := [.lit (.bool false)], args := [] }
  | _ => none }
def PickKnownWrongFalsely : Prop := pickKnownRow.holds Try.pinned (OpenSpec.ofChange pickKnownWrong)

/- THE SECOND FORM. 'bulk': how many values and letters a reading holds, each counted each time it is reached (what is shared counts as often as it is met; a slice's spare places count too). A statement '..UptoSaid' is the law's where the arguments, and the package variables that the reading takes, are together of bulk at most 1048576: NARROWER than '..Said'. Prove '..Said' where nothing that the law and all that it calls make is longer than what came in: it says more and counts as full. Else prove '..UptoSaid'. A law counts once. -/
mutual
def uptoBulk {H : Type} : DataW H → Nat
  | .lit (.string bytes) => bytes.length + 1
  | .lit _ => 1
  | .nil => 1
  | .ptr d => uptoBulk d + 1
  | .slice elems spare => uptoBulkAll elems + uptoBulkAll spare + 1
  | .agg parts => uptoBulkAll parts + 1
  | .iface _ d => uptoBulk d + 1
  | .map entries => uptoBulkEntries entries + 1
  | .held _ => 1
def uptoBulkAll {H : Type} : List (DataW H) → Nat
  | [] => 0
  | d :: r => uptoBulk d + uptoBulkAll r
def uptoBulkEntries {H : Type} : List (Lit × DataW H) → Nat
  | [] => 0
  | x :: r => uptoBulkEntry x + uptoBulkEntries r
def uptoBulkEntry {H : Type} : Lit × DataW H → Nat
  | (.string bytes, d) => bytes.length + uptoBulk d + 1
  | (_, d) => uptoBulk d + 1
 end
def uptoSmall : (H : Type) → List (DataW H) → Bool := fun _ ds => decide (uptoBulkAll ds ≤ 1048576)
def OpenSpec.upto (s : _root_.Go.ChangeSpec) : _root_.Go.OpenSpec := { _root_.Go.OpenSpec.ofChange s with cond := some uptoSmall }

/-- 'nomenclatorlaw26.PickSound', WHERE WHAT IT READS IS OF BULK AT MOST 1048576: true; the input reads as it did. -/
def pickSoundUptoRow : OpenClaim := { program := "ytjkeijjfjbcaiaa", sum := "5f1abcb05e9d10604e2ea7d56263df45eac8489b42e34ad25af7bf320b9cd38b", func := "nomenclator/nomenclatorlaw26.PickSound", spec := "pickSound", unfollowed := true, recurses := true, apart := false, narrowed := true }
def PickSoundUptoSaid : Prop := pickSoundUptoRow.holds Try.pinned (OpenSpec.upto pickSoundSpec)

/-- 'nomenclatorlaw26.PickScript', WHERE WHAT IT READS IS OF BULK AT MOST 1048576: true; the input reads as it did. -/
def pickScriptUptoRow : OpenClaim := { program := "ytjkeijjfjbcaiaa", sum := "5f1abcb05e9d10604e2ea7d56263df45eac8489b42e34ad25af7bf320b9cd38b", func := "nomenclator/nomenclatorlaw26.PickScript", spec := "pickScript", unfollowed := true, recurses := true, apart := false, narrowed := true }
def PickScriptUptoSaid : Prop := pickScriptUptoRow.holds Try.pinned (OpenSpec.upto pickScriptSpec)

/-- 'nomenclatorlaw26.PickNone', WHERE WHAT IT READS IS OF BULK AT MOST 1048576: true; the input reads as it did. -/
def pickNoneUptoRow : OpenClaim := { program := "ytjkeijjfjbcaiaa", sum := "5f1abcb05e9d10604e2ea7d56263df45eac8489b42e34ad25af7bf320b9cd38b", func := "nomenclator/nomenclatorlaw26.PickNone", spec := "pickNone", unfollowed := true, recurses := true, apart := false, narrowed := true }
def PickNoneUptoSaid : Prop := pickNoneUptoRow.holds Try.pinned (OpenSpec.upto pickNoneSpec)

/-- 'nomenclatorlaw26.PickOthers', WHERE WHAT IT READS IS OF BULK AT MOST 1048576: true; the input reads as it did. -/
def pickOthersUptoRow : OpenClaim := { program := "ytjkeijjfjbcaiaa", sum := "5f1abcb05e9d10604e2ea7d56263df45eac8489b42e34ad25af7bf320b9cd38b", func := "nomenclator/nomenclatorlaw26.PickOthers", spec := "pickOthers", unfollowed := true, recurses := true, apart := false, narrowed := true }
def PickOthersUptoSaid : Prop := pickOthersUptoRow.holds Try.pinned (OpenSpec.upto pickOthersSpec)

/-- 'nomenclatorlaw26.PickBounds', WHERE WHAT IT READS IS OF BULK AT MOST 1048576: true; the input reads as it did. -/
def pickBoundsUptoRow : OpenClaim := { program := "ytjkeijjfjbcaiaa", sum := "5f1abcb05e9d10604e2ea7d56263df45eac8489b42e34ad25af7bf320b9cd38b", func := "nomenclator/nomenclatorlaw26.PickBounds", spec := "pickBounds", unfollowed := true, recurses := true, apart := false, narrowed := true }
def PickBoundsUptoSaid : Prop := pickBoundsUptoRow.holds Try.pinned (OpenSpec.upto pickBoundsSpec)

/-- 'nomenclatorlaw26.PickKnown', WHERE WHAT IT READS IS OF BULK AT MOST 1048576: true; the input reads as it did. -/
def pickKnownUptoRow : OpenClaim := { program := "ytjkeijjfjbcaiaa", sum := "5f1abcb05e9d10604e2ea7d56263df45eac8489b42e34ad25af7bf320b9cd38b", func := "nomenclator/nomenclatorlaw26.PickKnown", spec := "pickKnown", unfollowed := true, recurses := true, apart := false, narrowed := true }
def PickKnownUptoSaid : Prop := pickKnownUptoRow.holds Try.pinned (OpenSpec.upto pickKnownSpec)

end Rows
end Go.Proofs.Ytjkeijjfjbcaiaa
