/-
  slices.BinarySearchFunc on records (Blob) whose keys rise. copy into a row of the call's own, elements of several cells; what an insertion leaves in a new row. No function of the program is named here. slices.Insert and slices.Clone on rows of records (Blob) that the call owns. Putting bytes among blobs whose digests rise: what is left. No function of the program is named here. blob.Put: what it answers. Printed by gen_bpi.py. The reference's BlobsPut: what it answers. Printed by gen_bpr.py. blob.Put and the reference's BlobsPut over all arguments. Printed by gen_bpw.py. What putting bytes into a store answers. Printed by gen_pbl.py. store.PutBlob: what it answers. Printed by gen_pbl.py. appleloftref.StorePutBlob: what it answers. Printed by gen_pbl.py. store.PutBlob and the reference's StorePutBlob over all arguments. Printed by gen_pbw.py.
-/
import Derived.Test.YtkbijjglodnfbaaGreatQdKB
import Derived.Test.YtkbijjglodnfbaaGreatQdSrt
import Derived.Test.YtkbijjglodnfbaaGreatQdShelf
import Derived.Test.YtkbijjglodnfbaaGreatQdBas
import Derived.Test.YtkbijjglodnfbaaGreatQdOwE
import Derived.Test.YtkbijjglodnfbaaGreatQdShb
import Derived.Test.YtkbijjglodnfbaaGreatQdWrt
import Derived.Deep.LoopGhost
import Derived.IntWalk
import Derived.Laws.CopyOwn
import Derived.Lib.AppendZerosOnto
import Derived.Lib.AppendZeros
import Derived.StillTailTactics
import Derived.OwnWalk
import Derived.Handy
namespace Go.Proofs.YtkbijjglodnfbaaGreat
open Go.RowKit

end Go.Proofs.YtkbijjglodnfbaaGreat

namespace Go.Proofs.YtkbijjglodnfbaaGreat
open Go.RowKit

end Go.Proofs.YtkbijjglodnfbaaGreat

namespace Go.Proofs.YtkbijjglodnfbaaGreat
open Go.RowKit

end Go.Proofs.YtkbijjglodnfbaaGreat

namespace Go.Proofs.YtkbijjglodnfbaaGreat
open Go.RowKit

section
variable {z : Int} {d : ByteArray} {data : List UInt8} {l : List Blob}
end
end Go.Proofs.YtkbijjglodnfbaaGreat

namespace Go.Proofs.YtkbijjglodnfbaaGreat
open Go.RowKit

end Go.Proofs.YtkbijjglodnfbaaGreat

namespace Go.Proofs.YtkbijjglodnfbaaGreat
open Go.RowKit

end Go.Proofs.YtkbijjglodnfbaaGreat

namespace Go.Proofs.YtkbijjglodnfbaaGreat
open Go.RowKit

end Go.Proofs.YtkbijjglodnfbaaGreat

namespace Go.Proofs.YtkbijjglodnfbaaGreat
open Go.RowKit

section
variable {z e r : Int} {L : List Blob}
end
end Go.Proofs.YtkbijjglodnfbaaGreat

namespace Go.Proofs.YtkbijjglodnfbaaGreat
open Go.RowKit

end Go.Proofs.YtkbijjglodnfbaaGreat

namespace Go.Proofs.YtkbijjglodnfbaaGreat
open Go.RowKit

end Go.Proofs.YtkbijjglodnfbaaGreat

namespace Go.Proofs.YtkbijjglodnfbaaGreat
open Go.RowKit

end Go.Proofs.YtkbijjglodnfbaaGreat
