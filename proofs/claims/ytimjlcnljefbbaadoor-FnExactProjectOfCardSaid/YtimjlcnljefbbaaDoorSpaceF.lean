/- IsSpace, both; pairs of spaces. -/
import Derived.Test.YtimjlcnljefbbaaDoorSpGood
namespace Go.Proofs.YtimjlcnljefbbaaDoor
open Go.RowKit
namespace Ints
open Fld (tab_alloc)

end Ints
end Go.Proofs.YtimjlcnljefbbaaDoor
