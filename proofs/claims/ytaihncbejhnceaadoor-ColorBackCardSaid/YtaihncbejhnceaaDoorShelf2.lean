/- More of the library contracts, laid for this dump. -/
import Derived.Test.YtaihncbejhnceaaDoorShelf
namespace Go.Proofs
open Go.Shelf
open Go.RowKit


end Go.Proofs
