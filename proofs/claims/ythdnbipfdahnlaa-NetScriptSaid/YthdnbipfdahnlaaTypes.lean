/- The element types of this translation, and append onto a slice of the call's own. -/
import Derived.Test.YthdnbipfdahnlaaProg
import Derived.Test.YthdnbipfdahnlaaLib
namespace Go.Proofs.Ythdnbipfdahnlaa
open Go.RowKit
theorem Try.info5 : (Try.prog.info? 5).map (fun i => (i.zero, i.size, i.bytes)) = some (some (.int .u8 0), 1, 1) := by kernel_rfl
theorem Try.info9 : (Try.prog.info? 9).map (fun i => (i.zero, i.size, i.bytes)) = some (some (.string ⟨#[]⟩), 1, 16) := by kernel_rfl
end Go.Proofs.Ythdnbipfdahnlaa
