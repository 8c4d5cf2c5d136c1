/- How arguments are opened. -/
import Derived.Test.YtbpkhnnfdjihdaaLib
namespace Go.Proofs.Ytbpkhnnfdjihdaa
open Go.RowKit
end Go.Proofs.Ytbpkhnnfdjihdaa
