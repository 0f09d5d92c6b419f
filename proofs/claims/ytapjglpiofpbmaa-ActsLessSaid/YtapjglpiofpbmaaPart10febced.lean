/- clewref19's ways. Printed by gen-ac4.py. -/
import Derived.Test.YtapjglpiofpbmaaPartf3ad9eed
import Derived.Test.YtapjglpiofpbmaaAcQ
namespace Go.Proofs.Ytapjglpiofpbmaa
open Go.RowKit Go.Sort

end Go.Proofs.Ytapjglpiofpbmaa
/- clewref19's head. Printed by gen-ac5.py. -/
namespace Go.Proofs.Ytapjglpiofpbmaa
open Go.RowKit Go.Sort

end Go.Proofs.Ytapjglpiofpbmaa
