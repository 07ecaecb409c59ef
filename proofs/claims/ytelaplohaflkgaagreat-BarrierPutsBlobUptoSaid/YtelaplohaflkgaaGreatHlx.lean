/-
  store.HoldBlob, store.Hold and the reference's StoreHoldBlob, StoreHold: what each answers. Printed by gen_hld.py. Holding of stores: what each call answers. Printed by gen_hld.py.
-/
import Derived.Test.YtelaplohaflkgaaGreatStC
import Derived.Test.YtelaplohaflkgaaGreatPin
namespace Go.Proofs.YtelaplohaflkgaaGreat
open Go.RowKit

end Go.Proofs.YtelaplohaflkgaaGreat

namespace Go.Proofs.YtelaplohaflkgaaGreat
open Go.RowKit

end Go.Proofs.YtelaplohaflkgaaGreat
