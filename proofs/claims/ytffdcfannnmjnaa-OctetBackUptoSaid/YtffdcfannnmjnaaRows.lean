/-
  No cell of these rows narrows 'for every input' (looked for: loops, veiled, ifaces, maps, wideKeys, modest, calm, conditions, laid).
  DERIVED. THE GIVEN ROWS OF THIS SEAT. 15 by the template 'for every input the law returns true; each argument reads behind the call as it read before'; 0 by the template 'total and deterministic' (their statements: YtffdcfannnmjnaaTotals.lean).
  GIVEN WITH THE SEED: the statements are not yours to turn. If you find one false, say at which input.
  Laid BY PROGRAM, IN A SANDBOX (cutbox-rows.mjs): the forced cells as the released guide's own fill.sh prints them over the translation 49ce3ed7ac8e142b… (all of the seat's roots in one cut). By AI agents, Wed Nov 11 2026. No macro, syntax, notation, axiom, sorry.
-/
import Derived.Test.YtffdcfannnmjnaaChecked
import GoSem.Claim
import GoSem.ClaimJoined
import GoSem.ClaimMapViews
import Derived.JoinedTies
import Derived.KernelRfl
namespace Go.Proofs.Ytffdcfannnmjnaa
/- THE CELL 'sum', in the pinned program and in every row, IS THE sha256 OF THE DUMP (.gsa) THAT YtffdcfannnmjnaaProg.lean LOADS. Nothing in Lean hashes anything: it is a label: what it is worth is what the hold of that sum in a sandbox is worth. -/
noncomputable def Try.pinned : Pinned := { name := "ytffdcfannnmjnaa", sum := "49ce3ed7ac8e142b66836c15a8175a2fda41c50123c9c2b1205cc413088a5daf", checked := Try.checked }
namespace Rows
def none {H : Type} : Left H := { results := [], args := [] }

/-- 'nomenclatorlaw02.LabelOrder': WHATEVER THE INPUT: true; the input reads as it did. -/
def labelOrderSpec : ChangeSpec := { name := "labelOrder", fn := fun _ => fun
  | [d1, d2, d3] => { results := [.lit (.bool true)], args := [d1, d2, d3] }
  | _ => none }
def labelOrderRow : OpenClaim := { program := "ytffdcfannnmjnaa", sum := "49ce3ed7ac8e142b66836c15a8175a2fda41c50123c9c2b1205cc413088a5daf", func := "nomenclator/nomenclatorlaw02.LabelOrder", spec := "labelOrder", inPlace := ["internal/bytealg.abigen_runtime_cmpstring"], apart := false }
def LabelOrderSaid : Prop := labelOrderRow.holds Try.pinned (OpenSpec.ofChange labelOrderSpec)

/-- ITS FALSE NEIGHBOUR: 'it returns false'. Refute it at one input. -/
def labelOrderWrong : ChangeSpec := { name := "labelOrder", fn := fun _ => fun
  | [d1, d2, d3] => { results := [.lit (.bool false)], args := [d1, d2, d3] }
  | _ => none }
def LabelOrderWrongFalsely : Prop := labelOrderRow.holds Try.pinned (OpenSpec.ofChange labelOrderWrong)

/-- 'nomenclatorlaw01.OctetNumbers': WHATEVER THE INPUT: true; the input reads as it did. -/
def octetNumbersSpec : ChangeSpec := { name := "octetNumbers", fn := fun _ => fun
  | [d1, d2, d3, d4] => { results := [.lit (.bool true)], args := [d1, d2, d3, d4] }
  | _ => none }
def octetNumbersRow : OpenClaim := { program := "ytffdcfannnmjnaa", sum := "49ce3ed7ac8e142b66836c15a8175a2fda41c50123c9c2b1205cc413088a5daf", func := "nomenclator/nomenclatorlaw01.OctetNumbers", spec := "octetNumbers", apart := false }
def OctetNumbersSaid : Prop := octetNumbersRow.holds Try.pinned (OpenSpec.ofChange octetNumbersSpec)

/-- ITS FALSE NEIGHBOUR: 'it returns false'. Refute it at one input. -/
def octetNumbersWrong : ChangeSpec := { name := "octetNumbers", fn := fun _ => fun
  | [d1, d2, d3, d4] => { results := [.lit (.bool false)], args := [d1, d2, d3, d4] }
  | _ => none }
def OctetNumbersWrongFalsely : Prop := octetNumbersRow.holds Try.pinned (OpenSpec.ofChange octetNumbersWrong)

/-- 'nomenclatorlaw02.LabelReads': WHATEVER THE INPUT: true; the input reads as it did. -/
def labelReadsSpec : ChangeSpec := { name := "labelReads", fn := fun _ => fun
  | [d] => { results := [.lit (.bool true)], args := [d] }
  | _ => none }
def labelReadsRow : OpenClaim := { program := "ytffdcfannnmjnaa", sum := "49ce3ed7ac8e142b66836c15a8175a2fda41c50123c9c2b1205cc413088a5daf", func := "nomenclator/nomenclatorlaw02.LabelReads", spec := "labelReads", apart := false }
def LabelReadsSaid : Prop := labelReadsRow.holds Try.pinned (OpenSpec.ofChange labelReadsSpec)

/-- ITS FALSE NEIGHBOUR: 'it returns false'. Refute it at one input. -/
def labelReadsWrong : ChangeSpec := { name := "labelReads", fn := fun _ => fun
  | [d] => { results := [.lit (.bool false)], args := [d] }
  | _ => none }
def LabelReadsWrongFalsely : Prop := labelReadsRow.holds Try.pinned (OpenSpec.ofChange labelReadsWrong)

/-- 'nomenclatorlaw03.NameOrder': WHATEVER THE INPUT: true; the input reads as it did. -/
def nameOrderSpec : ChangeSpec := { name := "nameOrder", fn := fun _ => fun
  | [d1, d2, d3] => { results := [.lit (.bool true)], args := [d1, d2, d3] }
  | _ => none }
def nameOrderRow : OpenClaim := { program := "ytffdcfannnmjnaa", sum := "49ce3ed7ac8e142b66836c15a8175a2fda41c50123c9c2b1205cc413088a5daf", func := "nomenclator/nomenclatorlaw03.NameOrder", spec := "nameOrder", inPlace := ["internal/bytealg.abigen_runtime_cmpstring"], unfollowed := true, recurses := true, apart := false }
def NameOrderSaid : Prop := nameOrderRow.holds Try.pinned (OpenSpec.ofChange nameOrderSpec)

/-- ITS FALSE NEIGHBOUR: 'it returns false'. Refute it at one input. -/
def nameOrderWrong : ChangeSpec := { name := "nameOrder", fn := fun _ => fun
  | [d1, d2, d3] => { results := [.lit (.bool false)], args := [d1, d2, d3] }
  | _ => none }
def NameOrderWrongFalsely : Prop := nameOrderRow.holds Try.pinned (OpenSpec.ofChange nameOrderWrong)

/-- 'nomenclatorlaw01.OctetReader': WHATEVER THE INPUT: true; the input reads as it did. -/
def octetReaderSpec : ChangeSpec := { name := "octetReader", fn := fun _ => fun
  | [d1, d2] => { results := [.lit (.bool true)], args := [d1, d2] }
  | _ => none }
def octetReaderRow : OpenClaim := { program := "ytffdcfannnmjnaa", sum := "49ce3ed7ac8e142b66836c15a8175a2fda41c50123c9c2b1205cc413088a5daf", func := "nomenclator/nomenclatorlaw01.OctetReader", spec := "octetReader", apart := false }
def OctetReaderSaid : Prop := octetReaderRow.holds Try.pinned (OpenSpec.ofChange octetReaderSpec)

/-- ITS FALSE NEIGHBOUR: 'it returns false'. Refute it at one input. -/
def octetReaderWrong : ChangeSpec := { name := "octetReader", fn := fun _ => fun
  | [d1, d2] => { results := [.lit (.bool false)], args := [d1, d2] }
  | _ => none }
def OctetReaderWrongFalsely : Prop := octetReaderRow.holds Try.pinned (OpenSpec.ofChange octetReaderWrong)

/-- 'nomenclatorlaw03.NameBytes': WHATEVER THE INPUT: true; the input reads as it did. -/
def nameBytesSpec : ChangeSpec := { name := "nameBytes", fn := fun _ => fun
  | [d1, d2, d3] => { results := [.lit (.bool true)], args := [d1, d2, d3] }
  | _ => none }
def nameBytesRow : OpenClaim := { program := "ytffdcfannnmjnaa", sum := "49ce3ed7ac8e142b66836c15a8175a2fda41c50123c9c2b1205cc413088a5daf", func := "nomenclator/nomenclatorlaw03.NameBytes", spec := "nameBytes", apart := false }
def NameBytesSaid : Prop := nameBytesRow.holds Try.pinned (OpenSpec.ofChange nameBytesSpec)

/-- ITS FALSE NEIGHBOUR: 'it returns false'. Refute it at one input. -/
def nameBytesWrong : ChangeSpec := { name := "nameBytes", fn := fun _ => fun
  | [d1, d2, d3] => { results := [.lit (.bool false)], args := [d1, d2, d3] }
  | _ => none }
def NameBytesWrongFalsely : Prop := nameBytesRow.holds Try.pinned (OpenSpec.ofChange nameBytesWrong)

/-- 'nomenclatorlaw01.OctetNil': WHATEVER THE INPUT: true; the input reads as it did. -/
def octetNilSpec : ChangeSpec := { name := "octetNil", fn := fun _ => fun
  | [d] => { results := [.lit (.bool true)], args := [d] }
  | _ => none }
def octetNilRow : OpenClaim := { program := "ytffdcfannnmjnaa", sum := "49ce3ed7ac8e142b66836c15a8175a2fda41c50123c9c2b1205cc413088a5daf", func := "nomenclator/nomenclatorlaw01.OctetNil", spec := "octetNil", apart := false }
def OctetNilSaid : Prop := octetNilRow.holds Try.pinned (OpenSpec.ofChange octetNilSpec)

/-- ITS FALSE NEIGHBOUR: 'it returns false'. Refute it at one input. -/
def octetNilWrong : ChangeSpec := { name := "octetNil", fn := fun _ => fun
  | [d] => { results := [.lit (.bool false)], args := [d] }
  | _ => none }
def OctetNilWrongFalsely : Prop := octetNilRow.holds Try.pinned (OpenSpec.ofChange octetNilWrong)

/-- 'nomenclatorlaw01.OctetTexts': WHATEVER THE INPUT: true; the input reads as it did. -/
def octetTextsSpec : ChangeSpec := { name := "octetTexts", fn := fun _ => fun
  | [d1, d2] => { results := [.lit (.bool true)], args := [d1, d2] }
  | _ => none }
def octetTextsRow : OpenClaim := { program := "ytffdcfannnmjnaa", sum := "49ce3ed7ac8e142b66836c15a8175a2fda41c50123c9c2b1205cc413088a5daf", func := "nomenclator/nomenclatorlaw01.OctetTexts", spec := "octetTexts", inPlace := ["internal/bytealg.IndexByteString", "internal/abi.NoEscape"], apart := false }
def OctetTextsSaid : Prop := octetTextsRow.holds Try.pinned (OpenSpec.ofChange octetTextsSpec)

/-- ITS FALSE NEIGHBOUR: 'it returns false'. Refute it at one input. -/
def octetTextsWrong : ChangeSpec := { name := "octetTexts", fn := fun _ => fun
  | [d1, d2] => { results := [.lit (.bool false)], args := [d1, d2] }
  | _ => none }
def OctetTextsWrongFalsely : Prop := octetTextsRow.holds Try.pinned (OpenSpec.ofChange octetTextsWrong)

/-- 'nomenclatorlaw02.LabelCalls': WHATEVER THE INPUT: true; the input reads as it did. -/
def labelCallsSpec : ChangeSpec := { name := "labelCalls", fn := fun _ => fun
  | [d1, d2] => { results := [.lit (.bool true)], args := [d1, d2] }
  | _ => none }
def labelCallsRow : OpenClaim := { program := "ytffdcfannnmjnaa", sum := "49ce3ed7ac8e142b66836c15a8175a2fda41c50123c9c2b1205cc413088a5daf", func := "nomenclator/nomenclatorlaw02.LabelCalls", spec := "labelCalls", inPlace := ["internal/bytealg.abigen_runtime_cmpstring", "internal/bytealg.IndexByteString", "internal/abi.NoEscape"], apart := false }
def LabelCallsSaid : Prop := labelCallsRow.holds Try.pinned (OpenSpec.ofChange labelCallsSpec)

/-- ITS FALSE NEIGHBOUR: 'it returns false'. Refute it at one input. -/
def labelCallsWrong : ChangeSpec := { name := "labelCalls", fn := fun _ => fun
  | [d1, d2] => { results := [.lit (.bool false)], args := [d1, d2] }
  | _ => none }
def LabelCallsWrongFalsely : Prop := labelCallsRow.holds Try.pinned (OpenSpec.ofChange labelCallsWrong)

/-- 'nomenclatorlaw02.LabelBack': WHATEVER THE INPUT: true; the input reads as it did. -/
def labelBackSpec : ChangeSpec := { name := "labelBack", fn := fun _ => fun
  | [d1, d2] => { results := [.lit (.bool true)], args := [d1, d2] }
  | _ => none }
def labelBackRow : OpenClaim := { program := "ytffdcfannnmjnaa", sum := "49ce3ed7ac8e142b66836c15a8175a2fda41c50123c9c2b1205cc413088a5daf", func := "nomenclator/nomenclatorlaw02.LabelBack", spec := "labelBack", inPlace := ["internal/bytealg.IndexByteString", "internal/abi.NoEscape"], apart := false }
def LabelBackSaid : Prop := labelBackRow.holds Try.pinned (OpenSpec.ofChange labelBackSpec)

/-- ITS FALSE NEIGHBOUR: 'it returns false'. Refute it at one input. -/
def labelBackWrong : ChangeSpec := { name := "labelBack", fn := fun _ => fun
  | [d1, d2] => { results := [.lit (.bool false)], args := [d1, d2] }
  | _ => none }
def LabelBackWrongFalsely : Prop := labelBackRow.holds Try.pinned (OpenSpec.ofChange labelBackWrong)

/-- 'nomenclatorlaw03.NameParts': WHATEVER THE INPUT: true; the input reads as it did. -/
def namePartsSpec : ChangeSpec := { name := "nameParts", fn := fun _ => fun
  | [d1, d2] => { results := [.lit (.bool true)], args := [d1, d2] }
  | _ => none }
def namePartsRow : OpenClaim := { program := "ytffdcfannnmjnaa", sum := "49ce3ed7ac8e142b66836c15a8175a2fda41c50123c9c2b1205cc413088a5daf", func := "nomenclator/nomenclatorlaw03.NameParts", spec := "nameParts", unfollowed := true, recurses := true, apart := false }
def NamePartsSaid : Prop := namePartsRow.holds Try.pinned (OpenSpec.ofChange namePartsSpec)

/-- ITS FALSE NEIGHBOUR: 'it returns false'. Refute it at one input. -/
def namePartsWrong : ChangeSpec := { name := "nameParts", fn := fun _ => fun
  | [d1, d2] => { results := [.lit (.bool false)], args := [d1, d2] }
  | _ => none }
def NamePartsWrongFalsely : Prop := namePartsRow.holds Try.pinned (OpenSpec.ofChange namePartsWrong)

/-- 'nomenclatorlaw03.NameCalls': WHATEVER THE INPUT: true; the input reads as it did. -/
def nameCallsSpec : ChangeSpec := { name := "nameCalls", fn := fun _ => fun
  | [d1, d2, d3] => { results := [.lit (.bool true)], args := [d1, d2, d3] }
  | _ => none }
def nameCallsRow : OpenClaim := { program := "ytffdcfannnmjnaa", sum := "49ce3ed7ac8e142b66836c15a8175a2fda41c50123c9c2b1205cc413088a5daf", func := "nomenclator/nomenclatorlaw03.NameCalls", spec := "nameCalls", inPlace := ["internal/bytealg.abigen_runtime_cmpstring"], unfollowed := true, recurses := true, apart := false }
def NameCallsSaid : Prop := nameCallsRow.holds Try.pinned (OpenSpec.ofChange nameCallsSpec)

/-- ITS FALSE NEIGHBOUR: 'it returns false'. Refute it at one input. -/
def nameCallsWrong : ChangeSpec := { name := "nameCalls", fn := fun _ => fun
  | [d1, d2, d3] => { results := [.lit (.bool false)], args := [d1, d2, d3] }
  | _ => none }
def NameCallsWrongFalsely : Prop := nameCallsRow.holds Try.pinned (OpenSpec.ofChange nameCallsWrong)

/-- 'nomenclatorlaw01.OctetBack': WHATEVER THE INPUT: true; the input reads as it did. -/
def octetBackSpec : ChangeSpec := { name := "octetBack", fn := fun _ => fun
  | [d1, d2, d3, d4] => { results := [.lit (.bool true)], args := [d1, d2, d3, d4] }
  | _ => none }
def octetBackRow : OpenClaim := { program := "ytffdcfannnmjnaa", sum := "49ce3ed7ac8e142b66836c15a8175a2fda41c50123c9c2b1205cc413088a5daf", func := "nomenclator/nomenclatorlaw01.OctetBack", spec := "octetBack", inPlace := ["internal/abi.NoEscape", "internal/bytealg.IndexByteString"], apart := false }
def OctetBackSaid : Prop := octetBackRow.holds Try.pinned (OpenSpec.ofChange octetBackSpec)

/-- ITS FALSE NEIGHBOUR: 'it returns false'. Refute it at one input. -/
def octetBackWrong : ChangeSpec := { name := "octetBack", fn := fun _ => fun
  | [d1, d2, d3, d4] => { results := [.lit (.bool false)], args := [d1, d2, d3, d4] }
  | _ => none }
def OctetBackWrongFalsely : Prop := octetBackRow.holds Try.pinned (OpenSpec.ofChange octetBackWrong)

/-- 'nomenclatorlaw03.NameTexts': WHATEVER THE INPUT: true; the input reads as it did. -/
def nameTextsSpec : ChangeSpec := { name := "nameTexts", fn := fun _ => fun
  | [d1, d2, d3] => { results := [.lit (.bool true)], args := [d1, d2, d3] }
  | _ => none }
def nameTextsRow : OpenClaim := { program := "ytffdcfannnmjnaa", sum := "49ce3ed7ac8e142b66836c15a8175a2fda41c50123c9c2b1205cc413088a5daf", func := "nomenclator/nomenclatorlaw03.NameTexts", spec := "nameTexts", inPlace := ["internal/bytealg.IndexByteString", "internal/abi.NoEscape"], apart := false }
def NameTextsSaid : Prop := nameTextsRow.holds Try.pinned (OpenSpec.ofChange nameTextsSpec)

/-- ITS FALSE NEIGHBOUR: 'it returns false'. Refute it at one input. -/
def nameTextsWrong : ChangeSpec := { name := "nameTexts", fn := fun _ => fun
  | [d1, d2, d3] => { results := [.lit (.bool false)], args := [d1, d2, d3] }
  | _ => none }
def NameTextsWrongFalsely : Prop := nameTextsRow.holds Try.pinned (OpenSpec.ofChange nameTextsWrong)

/-- 'nomenclatorlaw03.NameBack': WHATEVER THE INPUT: true; the input reads as it did. -/
def nameBackSpec : ChangeSpec := { name := "nameBack", fn := fun _ => fun
  | [d1, d2, d3] => { results := [.lit (.bool true)], args := [d1, d2, d3] }
  | _ => none }
def nameBackRow : OpenClaim := { program := "ytffdcfannnmjnaa", sum := "49ce3ed7ac8e142b66836c15a8175a2fda41c50123c9c2b1205cc413088a5daf", func := "nomenclator/nomenclatorlaw03.NameBack", spec := "nameBack", inPlace := ["internal/bytealg.IndexByteString", "internal/abi.NoEscape"], apart := false }
def NameBackSaid : Prop := nameBackRow.holds Try.pinned (OpenSpec.ofChange nameBackSpec)

/-- ITS FALSE NEIGHBOUR: 'it returns false'. Refute it at one input. -/
def nameBackWrong : ChangeSpec := { name := "nameBack", fn := fun _ => fun
  | [d1, d2, d3] => { results := [.lit (.bool false)], args := [d1, d2, d3] }
  | _ => none }
def NameBackWrongFalsely : Prop := nameBackRow.holds Try.pinned (OpenSpec.ofChange nameBackWrong)

/- THE SECOND FORM. 'bulk': how many values and letters a reading holds, each counted each time it is reached (what is shared counts as often as it is met; a slice's spare places count too). A statement '..UptoSaid' is the law's where the arguments, and the package variables that the reading takes, are together of bulk at most 1048576: NARROWER than '..Said'. Prove '..Said' where nothing that the law and all that it calls make is longer than what came in: it says more and counts as full. Else prove '..UptoSaid'. A law counts once. -/
mutual
def uptoBulk {H : Type} : DataW H → Nat
  | .lit (.string bytes) => bytes.length + 1
  | .lit _ => 1
  | .nil => 1
  | .ptr d => uptoBulk d + 1
  | .slice elems spare => uptoBulkAll elems + uptoBulkAll spare + 1
  | .agg parts => uptoBulkAll parts + 1
  | .iface _ d => uptoBulk d + 1
  | .map entries => uptoBulkEntries entries + 1
  | .held _ => 1
def uptoBulkAll {H : Type} : List (DataW H) → Nat
  | [] => 0
  | d :: r => uptoBulk d + uptoBulkAll r
def uptoBulkEntries {H : Type} : List (Lit × DataW H) → Nat
  | [] => 0
  | x :: r => uptoBulkEntry x + uptoBulkEntries r
def uptoBulkEntry {H : Type} : Lit × DataW H → Nat
  | (.string bytes, d) => bytes.length + uptoBulk d + 1
  | (_, d) => uptoBulk d + 1
 end
def uptoSmall : (H : Type) → List (DataW H) → Bool := fun _ ds => decide (uptoBulkAll ds ≤ 1048576)
def OpenSpec.upto (s : _root_.Go.ChangeSpec) : _root_.Go.OpenSpec := { _root_.Go.OpenSpec.ofChange s with cond := some uptoSmall }

/-- 'nomenclatorlaw02.LabelOrder', WHERE WHAT IT READS IS OF BULK AT MOST 1048576: true; the input reads as it did. -/
def labelOrderUptoRow : OpenClaim := { program := "ytffdcfannnmjnaa", sum := "49ce3ed7ac8e142b66836c15a8175a2fda41c50123c9c2b1205cc413088a5daf", func := "nomenclator/nomenclatorlaw02.LabelOrder", spec := "labelOrder", inPlace := ["internal/bytealg.abigen_runtime_cmpstring"], apart := false, narrowed := true }
def LabelOrderUptoSaid : Prop := labelOrderUptoRow.holds Try.pinned (OpenSpec.upto labelOrderSpec)

/-- 'nomenclatorlaw01.OctetNumbers', WHERE WHAT IT READS IS OF BULK AT MOST 1048576: true; the input reads as it did. -/
def octetNumbersUptoRow : OpenClaim := { program := "ytffdcfannnmjnaa", sum := "49ce3ed7ac8e142b66836c15a8175a2fda41c50123c9c2b1205cc413088a5daf", func := "nomenclator/nomenclatorlaw01.OctetNumbers", spec := "octetNumbers", apart := false, narrowed := true }
def OctetNumbersUptoSaid : Prop := octetNumbersUptoRow.holds Try.pinned (OpenSpec.upto octetNumbersSpec)

/-- 'nomenclatorlaw02.LabelReads', WHERE WHAT IT READS IS OF BULK AT MOST 1048576: true; the input reads as it did. -/
def labelReadsUptoRow : OpenClaim := { program := "ytffdcfannnmjnaa", sum := "49ce3ed7ac8e142b66836c15a8175a2fda41c50123c9c2b1205cc413088a5daf", func := "nomenclator/nomenclatorlaw02.LabelReads", spec := "labelReads", apart := false, narrowed := true }
def LabelReadsUptoSaid : Prop := labelReadsUptoRow.holds Try.pinned (OpenSpec.upto labelReadsSpec)

/-- 'nomenclatorlaw03.NameOrder', WHERE WHAT IT READS IS OF BULK AT MOST 1048576: true; the input reads as it did. -/
def nameOrderUptoRow : OpenClaim := { program := "ytffdcfannnmjnaa", sum := "49ce3ed7ac8e142b66836c15a8175a2fda41c50123c9c2b1205cc413088a5daf", func := "nomenclator/nomenclatorlaw03.NameOrder", spec := "nameOrder", inPlace := ["internal/bytealg.abigen_runtime_cmpstring"], unfollowed := true, recurses := true, apart := false, narrowed := true }
def NameOrderUptoSaid : Prop := nameOrderUptoRow.holds Try.pinned (OpenSpec.upto nameOrderSpec)

/-- 'nomenclatorlaw01.OctetReader', WHERE WHAT IT READS IS OF BULK AT MOST 1048576: true; the input reads as it did. -/
def octetReaderUptoRow : OpenClaim := { program := "ytffdcfannnmjnaa", sum := "49ce3ed7ac8e142b66836c15a8175a2fda41c50123c9c2b1205cc413088a5daf", func := "nomenclator/nomenclatorlaw01.OctetReader", spec := "octetReader", apart := false, narrowed := true }
def OctetReaderUptoSaid : Prop := octetReaderUptoRow.holds Try.pinned (OpenSpec.upto octetReaderSpec)

/-- 'nomenclatorlaw03.NameBytes', WHERE WHAT IT READS IS OF BULK AT MOST 1048576: true; the input reads as it did. -/
def nameBytesUptoRow : OpenClaim := { program := "ytffdcfannnmjnaa", sum := "49ce3ed7ac8e142b66836c15a8175a2fda41c50123c9c2b1205cc413088a5daf", func := "nomenclator/nomenclatorlaw03.NameBytes", spec := "nameBytes", apart := false, narrowed := true }
def NameBytesUptoSaid : Prop := nameBytesUptoRow.holds Try.pinned (OpenSpec.upto nameBytesSpec)

/-- 'nomenclatorlaw01.OctetNil', WHERE WHAT IT READS IS OF BULK AT MOST 1048576: true; the input reads as it did. -/
def octetNilUptoRow : OpenClaim := { program := "ytffdcfannnmjnaa", sum := "49ce3ed7ac8e142b66836c15a8175a2fda41c50123c9c2b1205cc413088a5daf", func := "nomenclator/nomenclatorlaw01.OctetNil", spec := "octetNil", apart := false, narrowed := true }
def OctetNilUptoSaid : Prop := octetNilUptoRow.holds Try.pinned (OpenSpec.upto octetNilSpec)

/-- 'nomenclatorlaw01.OctetTexts', WHERE WHAT IT READS IS OF BULK AT MOST 1048576: true; the input reads as it did. -/
def octetTextsUptoRow : OpenClaim := { program := "ytffdcfannnmjnaa", sum := "49ce3ed7ac8e142b66836c15a8175a2fda41c50123c9c2b1205cc413088a5daf", func := "nomenclator/nomenclatorlaw01.OctetTexts", spec := "octetTexts", inPlace := ["internal/bytealg.IndexByteString", "internal/abi.NoEscape"], apart := false, narrowed := true }
def OctetTextsUptoSaid : Prop := octetTextsUptoRow.holds Try.pinned (OpenSpec.upto octetTextsSpec)

/-- 'nomenclatorlaw02.LabelCalls', WHERE WHAT IT READS IS OF BULK AT MOST 1048576: true; the input reads as it did. -/
def labelCallsUptoRow : OpenClaim := { program := "ytffdcfannnmjnaa", sum := "49ce3ed7ac8e142b66836c15a8175a2fda41c50123c9c2b1205cc413088a5daf", func := "nomenclator/nomenclatorlaw02.LabelCalls", spec := "labelCalls", inPlace := ["internal/bytealg.abigen_runtime_cmpstring", "internal/bytealg.IndexByteString", "internal/abi.NoEscape"], apart := false, narrowed := true }
def LabelCallsUptoSaid : Prop := labelCallsUptoRow.holds Try.pinned (OpenSpec.upto labelCallsSpec)

/-- 'nomenclatorlaw02.LabelBack', WHERE WHAT IT READS IS OF BULK AT MOST 1048576: true; the input reads as it did. -/
def labelBackUptoRow : OpenClaim := { program := "ytffdcfannnmjnaa", sum := "49ce3ed7ac8e142b66836c15a8175a2fda41c50123c9c2b1205cc413088a5daf", func := "nomenclator/nomenclatorlaw02.LabelBack", spec := "labelBack", inPlace := ["internal/bytealg.IndexByteString", "internal/abi.NoEscape"], apart := false, narrowed := true }
def LabelBackUptoSaid : Prop := labelBackUptoRow.holds Try.pinned (OpenSpec.upto labelBackSpec)

/-- 'nomenclatorlaw03.NameParts', WHERE WHAT IT READS IS OF BULK AT MOST 1048576: true; the input reads as it did. -/
def namePartsUptoRow : OpenClaim := { program := "ytffdcfannnmjnaa", sum := "49ce3ed7ac8e142b66836c15a8175a2fda41c50123c9c2b1205cc413088a5daf", func := "nomenclator/nomenclatorlaw03.NameParts", spec := "nameParts", unfollowed := true, recurses := true, apart := false, narrowed := true }
def NamePartsUptoSaid : Prop := namePartsUptoRow.holds Try.pinned (OpenSpec.upto namePartsSpec)

/-- 'nomenclatorlaw03.NameCalls', WHERE WHAT IT READS IS OF BULK AT MOST 1048576: true; the input reads as it did. -/
def nameCallsUptoRow : OpenClaim := { program := "ytffdcfannnmjnaa", sum := "49ce3ed7ac8e142b66836c15a8175a2fda41c50123c9c2b1205cc413088a5daf", func := "nomenclator/nomenclatorlaw03.NameCalls", spec := "nameCalls", inPlace := ["internal/bytealg.abigen_runtime_cmpstring"], unfollowed := true, recurses := true, apart := false, narrowed := true }
def NameCallsUptoSaid : Prop := nameCallsUptoRow.holds Try.pinned (OpenSpec.upto nameCallsSpec)

/-- 'nomenclatorlaw01.OctetBack', WHERE WHAT IT READS IS OF BULK AT MOST 1048576: true; the input reads as it did. -/
def octetBackUptoRow : OpenClaim := { program := "ytffdcfannnmjnaa", sum := "49ce3ed7ac8e142b66836c15a8175a2fda41c50123c9c2b1205cc413088a5daf", func := "nomenclator/nomenclatorlaw01.OctetBack", spec := "octetBack", inPlace := ["internal/abi.NoEscape", "internal/bytealg.IndexByteString"], apart := false, narrowed := true }
def OctetBackUptoSaid : Prop := octetBackUptoRow.holds Try.pinned (OpenSpec.upto octetBackSpec)

/-- 'nomenclatorlaw03.NameTexts', WHERE WHAT IT READS IS OF BULK AT MOST 1048576: true; the input reads as it did. -/
def nameTextsUptoRow : OpenClaim := { program := "ytffdcfannnmjnaa", sum := "49ce3ed7ac8e142b66836c15a8175a2fda41c50123c9c2b1205cc413088a5daf", func := "nomenclator/nomenclatorlaw03.NameTexts", spec := "nameTexts", inPlace := ["internal/bytealg.IndexByteString", "internal/abi.NoEscape"], apart := false, narrowed := true }
def NameTextsUptoSaid : Prop := nameTextsUptoRow.holds Try.pinned (OpenSpec.upto nameTextsSpec)

/-- 'nomenclatorlaw03.NameBack', WHERE WHAT IT READS IS OF BULK AT MOST 1048576: true; the input reads as it did. -/
def nameBackUptoRow : OpenClaim := { program := "ytffdcfannnmjnaa", sum := "49ce3ed7ac8e142b66836c15a8175a2fda41c50123c9c2b1205cc413088a5daf", func := "nomenclator/nomenclatorlaw03.NameBack", spec := "nameBack", inPlace := ["internal/bytealg.IndexByteString", "internal/abi.NoEscape"], apart := false, narrowed := true }
def NameBackUptoSaid : Prop := nameBackUptoRow.holds Try.pinned (OpenSpec.upto nameBackSpec)

end Rows
end Go.Proofs.Ytffdcfannnmjnaa
