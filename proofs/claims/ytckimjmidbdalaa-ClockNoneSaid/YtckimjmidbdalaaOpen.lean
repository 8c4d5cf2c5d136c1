/- How arguments are opened. -/
import Derived.Test.YtckimjmidbdalaaLib
namespace Go.Proofs.Ytckimjmidbdalaa
open Go.RowKit
end Go.Proofs.Ytckimjmidbdalaa
