/-
  The law HexTexts: its walk.
-/
import Derived.Test.YtaojfpgbpakmpaaHexR
import Derived.Test.YtaojfpgbpakmpaaHexB
namespace Go.Proofs.Ytaojfpgbpakmpaa
open Go.RowKit

end Go.Proofs.Ytaojfpgbpakmpaa
