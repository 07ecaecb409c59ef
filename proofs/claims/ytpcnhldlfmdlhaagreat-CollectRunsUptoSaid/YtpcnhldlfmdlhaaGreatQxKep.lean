/-
  barrier.keep and the reference's kept: what they answer. Printed by gen_kep.py.
-/
import Derived.Test.YtpcnhldlfmdlhaaGreatQxMkx
import Derived.Test.YtpcnhldlfmdlhaaGreatQxRtx
import Derived.Test.YtpcnhldlfmdlhaaGreatQxMsL
import Derived.Test.YtpcnhldlfmdlhaaGreatQxCnx
import Derived.Test.YtpcnhldlfmdlhaaGreatQxStC
import Derived.Test.YtpcnhldlfmdlhaaGreatQxWrt
import Derived.Test.YtpcnhldlfmdlhaaGreatQxChn
namespace Go.Proofs.YtpcnhldlfmdlhaaGreat
open Go.RowKit

end Go.Proofs.YtpcnhldlfmdlhaaGreat
