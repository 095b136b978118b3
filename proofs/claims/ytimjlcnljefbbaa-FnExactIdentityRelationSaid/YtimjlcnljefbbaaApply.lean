/- The program's row operations: exchange, division, subtraction. -/
import Derived.Test.YtimjlcnljefbbaaRowFn
import Derived.Test.YtimjlcnljefbbaaLinAll
import Derived.Test.YtimjlcnljefbbaaMemB
import Derived.Test.YtimjlcnljefbbaaFx
import Derived.IntWalk
namespace Go.Proofs.Ytimjlcnljefbbaa
open Go.RowKit
namespace Ints
-- nothing of it here

end Ints
end Go.Proofs.Ytimjlcnljefbbaa
