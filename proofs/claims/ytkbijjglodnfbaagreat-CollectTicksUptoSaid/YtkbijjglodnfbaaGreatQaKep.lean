/-
  barrier.keep and the reference's kept: what they answer. Printed by gen_kep.py.
-/
import Derived.Test.YtkbijjglodnfbaaGreatQaMkx
import Derived.Test.YtkbijjglodnfbaaGreatQaRtx
import Derived.Test.YtkbijjglodnfbaaGreatQaMsL
import Derived.Test.YtkbijjglodnfbaaGreatQaCnx
import Derived.Test.YtkbijjglodnfbaaGreatQaStC
import Derived.Test.YtkbijjglodnfbaaGreatQaWrt
import Derived.Test.YtkbijjglodnfbaaGreatQaChn
namespace Go.Proofs.YtkbijjglodnfbaaGreat
open Go.RowKit

end Go.Proofs.YtkbijjglodnfbaaGreat
