/- How arguments are opened. -/
import Derived.Test.YtffdcfannnmjnaaLib
namespace Go.Proofs.Ytffdcfannnmjnaa
open Go.RowKit
end Go.Proofs.Ytffdcfannnmjnaa
