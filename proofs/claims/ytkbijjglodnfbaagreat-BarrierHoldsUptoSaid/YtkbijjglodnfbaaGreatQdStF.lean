/-
  store.Copy once more: the row of its blobs is full and new.
-/
import Derived.Test.YtkbijjglodnfbaaGreatQdWrt
namespace Go.Proofs.YtkbijjglodnfbaaGreat
open Go.RowKit

end Go.Proofs.YtkbijjglodnfbaaGreat
