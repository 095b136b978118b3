/- Row reduction: the program's. -/
import Derived.Test.YtimjlcnljefbbaaStep
import Derived.Test.YtimjlcnljefbbaaRedMore
namespace Go.Proofs.Ytimjlcnljefbbaa
open Go.RowKit
namespace Ints

end Ints
end Go.Proofs.Ytimjlcnljefbbaa
