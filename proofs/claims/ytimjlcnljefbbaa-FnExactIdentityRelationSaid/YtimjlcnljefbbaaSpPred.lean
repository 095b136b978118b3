/- spRows, l1Same, spSame. (Printed by wip/gen_sppred.py.) -/
import Derived.Test.YtimjlcnljefbbaaPred
import Derived.Test.YtimjlcnljefbbaaRowsB
import Derived.BigQuiet
namespace Go.Proofs.Ytimjlcnljefbbaa
open Go.RowKit
namespace Ints
open Fld (goodB inB inR good_bounds)

end Ints
end Go.Proofs.Ytimjlcnljefbbaa
