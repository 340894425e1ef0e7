/- Accrued interest; the program's AccruedOf, DirtyOf and CleanOf. -/
import Derived.Test.YtkgjciacdjhhfaaDoorRows
import Derived.Test.YtkgjciacdjhhfaaDoorBase
import Derived.Test.YtkgjciacdjhhfaaDoorRunWalk
import Derived.IntWalk
import Derived.Deep.RegionHeld
namespace Go.Proofs.YtkgjciacdjhhfaaDoor
open Go.RowKit

end Go.Proofs.YtkgjciacdjhhfaaDoor
