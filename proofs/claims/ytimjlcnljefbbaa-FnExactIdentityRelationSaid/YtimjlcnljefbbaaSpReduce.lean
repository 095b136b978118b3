/- The reduced rows: the reference's. -/
import Derived.Test.YtimjlcnljefbbaaReduced
import Derived.Test.YtimjlcnljefbbaaRedMore
import Derived.Test.YtimjlcnljefbbaaRowFn
import Derived.Deep.RegionHeld3
import Derived.StillTailTactics
import Derived.Deep.DeepCutAuto
namespace Go.Proofs.Ytimjlcnljefbbaa
open Go.RowKit
namespace Ints
-- nothing of it here

end Ints
end Go.Proofs.Ytimjlcnljefbbaa
