/-
  No cell of these rows narrows 'for every input' (looked for: loops, veiled, ifaces, maps, wideKeys, modest, calm, conditions, laid).
  DERIVED. THE GIVEN ROWS OF THIS SEAT. 7 by the template 'for every input the law returns true; each argument reads behind the call as it read before'; 0 by the template 'total and deterministic' (their statements: YtckimjmidbdalaaTotals.lean).
  GIVEN WITH THE SEED: the statements are not yours to turn. If you find one false, say at which input.
  Laid BY PROGRAM, IN A SANDBOX (cutbox-rows.mjs): the forced cells as the released guide's own fill.sh prints them over the translation 8bfdeffc2beb15a6… (all of the seat's roots in one cut). By AI agents, Wed Nov 11 2026. No macro, syntax, notation, axiom, sorry.
-/
import Derived.Test.YtckimjmidbdalaaChecked
import GoSem.Claim
import GoSem.ClaimJoined
import GoSem.ClaimMapViews
import Derived.JoinedTies
import Derived.KernelRfl
namespace Go.Proofs.Ytckimjmidbdalaa
/- THE CELL 'sum', in the pinned program and in every row, IS THE sha256 OF THE DUMP (.gsa) THAT YtckimjmidbdalaaProg.lean LOADS. Nothing in Lean hashes anything: it is a label: what it is worth is what the hold of that sum in a sandbox is worth. -/
noncomputable def Try.pinned : Pinned := { name := "ytckimjmidbdalaa", sum := "8bfdeffc2beb15a69ec3c314c2ec0398ef27210152e16287acccd6c4ee2c4891", checked := Try.checked }
namespace Rows
def none {H : Type} : Left H := { results := [], args := [] }

/-- 'nomenclatorlaw22.ClockChance': WHATEVER THE INPUT: true; the input reads as it did. -/
def clockChanceSpec : ChangeSpec := { name := "clockChance", fn := fun _ => fun
  | [d1, d2, d3] => { results := [.lit (.bool true)], args := [d1, d2, d3] }
  | _ => none }
def clockChanceRow : OpenClaim := { program := "ytckimjmidbdalaa", sum := "8bfdeffc2beb15a69ec3c314c2ec0398ef27210152e16287acccd6c4ee2c4891", func := "nomenclator/nomenclatorlaw22.ClockChance", spec := "clockChance", apart := false }
def ClockChanceSaid : Prop := clockChanceRow.holds Try.pinned (OpenSpec.ofChange clockChanceSpec)

/-- ITS FALSE NEIGHBOUR: 'it returns false'. Refute it at one input. -/
def clockChanceWrong : ChangeSpec := { name := "clockChance", fn := fun _ => fun
  | [d1, d2, d3] => { results := [.lit (.bool false)], args := [d1, d2, d3] }
  | _ => none }
def ClockChanceWrongFalsely : Prop := clockChanceRow.holds Try.pinned (OpenSpec.ofChange clockChanceWrong)

/-- 'nomenclatorlaw22.ClockMixes': WHATEVER THE INPUT: true; the input reads as it did. -/
def clockMixesSpec : ChangeSpec := { name := "clockMixes", fn := fun _ => fun
  | [d1, d2, d3, d4] => { results := [.lit (.bool true)], args := [d1, d2, d3, d4] }
  | _ => none }
def clockMixesRow : OpenClaim := { program := "ytckimjmidbdalaa", sum := "8bfdeffc2beb15a69ec3c314c2ec0398ef27210152e16287acccd6c4ee2c4891", func := "nomenclator/nomenclatorlaw22.ClockMixes", spec := "clockMixes", unfollowed := true, recurses := true, apart := false }
def ClockMixesSaid : Prop := clockMixesRow.holds Try.pinned (OpenSpec.ofChange clockMixesSpec)

/-- ITS FALSE NEIGHBOUR: 'it returns false'. Refute it at one input. -/
def clockMixesWrong : ChangeSpec := { name := "clockMixes", fn := fun _ => fun
  | [d1, d2, d3, d4] => { results := [.lit (.bool false)], args := [d1, d2, d3, d4] }
  | _ => none }
def ClockMixesWrongFalsely : Prop := clockMixesRow.holds Try.pinned (OpenSpec.ofChange clockMixesWrong)

/-- 'nomenclatorlaw22.ClockOrder': WHATEVER THE INPUT: true; the input reads as it did. -/
def clockOrderSpec : ChangeSpec := { name := "clockOrder", fn := fun _ => fun
  | [d] => { results := [.lit (.bool true)], args := [d] }
  | _ => none }
def clockOrderRow : OpenClaim := { program := "ytckimjmidbdalaa", sum := "8bfdeffc2beb15a69ec3c314c2ec0398ef27210152e16287acccd6c4ee2c4891", func := "nomenclator/nomenclatorlaw22.ClockOrder", spec := "clockOrder", unfollowed := true, recurses := true, apart := false }
def ClockOrderSaid : Prop := clockOrderRow.holds Try.pinned (OpenSpec.ofChange clockOrderSpec)

/-- ITS FALSE NEIGHBOUR: 'it returns false'. Refute it at one input. -/
def clockOrderWrong : ChangeSpec := { name := "clockOrder", fn := fun _ => fun
  | [d] => { results := [.lit (.bool false)], args := [d] }
  | _ => none }
def ClockOrderWrongFalsely : Prop := clockOrderRow.holds Try.pinned (OpenSpec.ofChange clockOrderWrong)

/-- 'nomenclatorlaw22.ClockKnown': WHATEVER THE INPUT: true; the input reads as it did. -/
def clockKnownSpec : ChangeSpec := { name := "clockKnown", fn := fun _ => fun
  | [] => { results := [.lit (.bool true)], args := [] }
  | _ => none }
def clockKnownRow : OpenClaim := { program := "ytckimjmidbdalaa", sum := "8bfdeffc2beb15a69ec3c314c2ec0398ef27210152e16287acccd6c4ee2c4891", func := "nomenclator/nomenclatorlaw22.ClockKnown", spec := "clockKnown", unfollowed := true, recurses := true, apart := false }
def ClockKnownSaid : Prop := clockKnownRow.holds Try.pinned (OpenSpec.ofChange clockKnownSpec)

/-- ITS FALSE NEIGHBOUR: 'it returns false'. Refute it at one input. -/
def clockKnownWrong : ChangeSpec := { name := "clockKnown", fn := fun _ => fun
  | [] => { results := [.lit (.bool false)], args := [] }
  | _ => none }
def ClockKnownWrongFalsely : Prop := clockKnownRow.holds Try.pinned (OpenSpec.ofChange clockKnownWrong)

/-- 'nomenclatorlaw22.ClockScript': WHATEVER THE INPUT: true; the input reads as it did. -/
def clockScriptSpec : ChangeSpec := { name := "clockScript", fn := fun _ => fun
  | [d] => { results := [.lit (.bool true)], args := [d] }
  | _ => none }
def clockScriptRow : OpenClaim := { program := "ytckimjmidbdalaa", sum := "8bfdeffc2beb15a69ec3c314c2ec0398ef27210152e16287acccd6c4ee2c4891", func := "nomenclator/nomenclatorlaw22.ClockScript", spec := "clockScript", unfollowed := true, recurses := true, apart := false }
def ClockScriptSaid : Prop := clockScriptRow.holds Try.pinned (OpenSpec.ofChange clockScriptSpec)

/-- ITS FALSE NEIGHBOUR: 'it returns false'. Refute it at one input. -/
def clockScriptWrong : ChangeSpec := { name := "clockScript", fn := fun _ => fun
  | [d] => { results := [.lit (.bool false)], args := [d] }
  | _ => none }
def ClockScriptWrongFalsely : Prop := clockScriptRow.holds Try.pinned (OpenSpec.ofChange clockScriptWrong)

/-- 'nomenclatorlaw22.ClockDrop': WHATEVER THE INPUT: true; the input reads as it did. -/
def clockDropSpec : ChangeSpec := { name := "clockDrop", fn := fun _ => fun
  | [d1, d2] => { results := [.lit (.bool true)], args := [d1, d2] }
  | _ => none }
def clockDropRow : OpenClaim := { program := "ytckimjmidbdalaa", sum := "8bfdeffc2beb15a69ec3c314c2ec0398ef27210152e16287acccd6c4ee2c4891", func := "nomenclator/nomenclatorlaw22.ClockDrop", spec := "clockDrop", unfollowed := true, recurses := true, apart := false }
def ClockDropSaid : Prop := clockDropRow.holds Try.pinned (OpenSpec.ofChange clockDropSpec)

/-- ITS FALSE NEIGHBOUR: 'it returns false'. Refute it at one input. -/
def clockDropWrong : ChangeSpec := { name := "clockDrop", fn := fun _ => fun
  | [d1, d2] => { results := [.lit (.bool false)], args := [d1, d2] }
  | _ => none }
def ClockDropWrongFalsely : Prop := clockDropRow.holds Try.pinned (OpenSpec.ofChange clockDropWrong)

/-- 'nomenclatorlaw22.ClockNone': WHATEVER THE INPUT: true; the input reads as it did. -/
def clockNoneSpec : ChangeSpec := { name := "clockNone", fn := fun _ => fun
  | [d1, d2] => { results := [.lit (.bool true)], args := [d1, d2] }
  | _ => none }
def clockNoneRow : OpenClaim := { program := "ytckimjmidbdalaa", sum := "8bfdeffc2beb15a69ec3c314c2ec0398ef27210152e16287acccd6c4ee2c4891", func := "nomenclator/nomenclatorlaw22.ClockNone", spec := "clockNone", unfollowed := true, recurses := true, apart := false }
def ClockNoneSaid : Prop := clockNoneRow.holds Try.pinned (OpenSpec.ofChange clockNoneSpec)

/-- ITS FALSE NEIGHBOUR: 'it returns false'. Refute it at one input. -/
def clockNoneWrong : ChangeSpec := { name := "clockNone", fn := fun _ => fun
  | [d1, d2] => { results := [.lit (.bool false)], args := [d1, d2] }
  | _ => none }
def ClockNoneWrongFalsely : Prop := clockNoneRow.holds Try.pinned (OpenSpec.ofChange clockNoneWrong)

/- THE SECOND FORM. 'bulk': how many values and letters a reading holds, each counted each time it is reached (what is shared counts as often as it is met; a slice's spare places count too). A statement '..UptoSaid' is the law's where the arguments, and the package variables that the reading takes, are together of bulk at most 1048576: NARROWER than '..Said'. Prove '..Said' where nothing that the law and all that it calls make is longer than what came in: it says more and counts as full. Else prove '..UptoSaid'. A law counts once. -/
mutual
def uptoBulk {H : Type} : DataW H → Nat
  | .lit (.string bytes) => bytes.length + 1
  | .lit _ => 1
  | .nil => 1
  | .ptr d => uptoBulk d + 1
  | .slice elems spare => uptoBulkAll elems + uptoBulkAll spare + 1
  | .agg parts => uptoBulkAll parts + 1
  | .iface _ d => uptoBulk d + 1
  | .map entries => uptoBulkEntries entries + 1
  | .held _ => 1
def uptoBulkAll {H : Type} : List (DataW H) → Nat
  | [] => 0
  | d :: r => uptoBulk d + uptoBulkAll r
def uptoBulkEntries {H : Type} : List (Lit × DataW H) → Nat
  | [] => 0
  | x :: r => uptoBulkEntry x + uptoBulkEntries r
def uptoBulkEntry {H : Type} : Lit × DataW H → Nat
  | (.string bytes, d) => bytes.length + uptoBulk d + 1
  | (_, d) => uptoBulk d + 1
 end
def uptoSmall : (H : Type) → List (DataW H) → Bool := fun _ ds => decide (uptoBulkAll ds ≤ 1048576)
def OpenSpec.upto (s : _root_.Go.ChangeSpec) : _root_.Go.OpenSpec := { _root_.Go.OpenSpec.ofChange s with cond := some uptoSmall }

/-- 'nomenclatorlaw22.ClockChance', WHERE WHAT IT READS IS OF BULK AT MOST 1048576: true; the input reads as it did. -/
def clockChanceUptoRow : OpenClaim := { program := "ytckimjmidbdalaa", sum := "8bfdeffc2beb15a69ec3c314c2ec0398ef27210152e16287acccd6c4ee2c4891", func := "nomenclator/nomenclatorlaw22.ClockChance", spec := "clockChance", apart := false, narrowed := true }
def ClockChanceUptoSaid : Prop := clockChanceUptoRow.holds Try.pinned (OpenSpec.upto clockChanceSpec)

/-- 'nomenclatorlaw22.ClockMixes', WHERE WHAT IT READS IS OF BULK AT MOST 1048576: true; the input reads as it did. -/
def clockMixesUptoRow : OpenClaim := { program := "ytckimjmidbdalaa", sum := "8bfdeffc2beb15a69ec3c314c2ec0398ef27210152e16287acccd6c4ee2c4891", func := "nomenclator/nomenclatorlaw22.ClockMixes", spec := "clockMixes", unfollowed := true, recurses := true, apart := false, narrowed := true }
def ClockMixesUptoSaid : Prop := clockMixesUptoRow.holds Try.pinned (OpenSpec.upto clockMixesSpec)

/-- 'nomenclatorlaw22.ClockOrder', WHERE WHAT IT READS IS OF BULK AT MOST 1048576: true; the input reads as it did. -/
def clockOrderUptoRow : OpenClaim := { program := "ytckimjmidbdalaa", sum := "8bfdeffc2beb15a69ec3c314c2ec0398ef27210152e16287acccd6c4ee2c4891", func := "nomenclator/nomenclatorlaw22.ClockOrder", spec := "clockOrder", unfollowed := true, recurses := true, apart := false, narrowed := true }
def ClockOrderUptoSaid : Prop := clockOrderUptoRow.holds Try.pinned (OpenSpec.upto clockOrderSpec)

/-- 'nomenclatorlaw22.ClockKnown', WHERE WHAT IT READS IS OF BULK AT MOST 1048576: true; the input reads as it did. -/
def clockKnownUptoRow : OpenClaim := { program := "ytckimjmidbdalaa", sum := "8bfdeffc2beb15a69ec3c314c2ec0398ef27210152e16287acccd6c4ee2c4891", func := "nomenclator/nomenclatorlaw22.ClockKnown", spec := "clockKnown", unfollowed := true, recurses := true, apart := false, narrowed := true }
def ClockKnownUptoSaid : Prop := clockKnownUptoRow.holds Try.pinned (OpenSpec.upto clockKnownSpec)

/-- 'nomenclatorlaw22.ClockScript', WHERE WHAT IT READS IS OF BULK AT MOST 1048576: true; the input reads as it did. -/
def clockScriptUptoRow : OpenClaim := { program := "ytckimjmidbdalaa", sum := "8bfdeffc2beb15a69ec3c314c2ec0398ef27210152e16287acccd6c4ee2c4891", func := "nomenclator/nomenclatorlaw22.ClockScript", spec := "clockScript", unfollowed := true, recurses := true, apart := false, narrowed := true }
def ClockScriptUptoSaid : Prop := clockScriptUptoRow.holds Try.pinned (OpenSpec.upto clockScriptSpec)

/-- 'nomenclatorlaw22.ClockDrop', WHERE WHAT IT READS IS OF BULK AT MOST 1048576: true; the input reads as it did. -/
def clockDropUptoRow : OpenClaim := { program := "ytckimjmidbdalaa", sum := "8bfdeffc2beb15a69ec3c314c2ec0398ef27210152e16287acccd6c4ee2c4891", func := "nomenclator/nomenclatorlaw22.ClockDrop", spec := "clockDrop", unfollowed := true, recurses := true, apart := false, narrowed := true }
def ClockDropUptoSaid : Prop := clockDropUptoRow.holds Try.pinned (OpenSpec.upto clockDropSpec)

/-- 'nomenclatorlaw22.ClockNone', WHERE WHAT IT READS IS OF BULK AT MOST 1048576: true; the input reads as it did. -/
def clockNoneUptoRow : OpenClaim := { program := "ytckimjmidbdalaa", sum := "8bfdeffc2beb15a69ec3c314c2ec0398ef27210152e16287acccd6c4ee2c4891", func := "nomenclator/nomenclatorlaw22.ClockNone", spec := "clockNone", unfollowed := true, recurses := true, apart := false, narrowed := true }
def ClockNoneUptoSaid : Prop := clockNoneUptoRow.holds Try.pinned (OpenSpec.upto clockNoneSpec)

end Rows
end Go.Proofs.Ytckimjmidbdalaa
