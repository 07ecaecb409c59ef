import Derived.Test.YtkbijjglodnfbaaGreatQcWrt
namespace Go.Proofs.YtkbijjglodnfbaaGreat
open Go.RowKit
end Go.Proofs.YtkbijjglodnfbaaGreat
