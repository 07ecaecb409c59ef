/-
  slices.BinarySearchFunc on records (Blob) whose keys rise. copy into a row of the call's own, elements of several cells; what an insertion leaves in a new row. No function of the program is named here. slices.Insert and slices.Clone on rows of records (Blob) that the call owns. Putting bytes among blobs whose digests rise: what is left. No function of the program is named here. blob.Put: what it answers. Printed by gen_bpi.py. The reference's BlobsPut: what it answers. Printed by gen_bpr.py. blob.Put and the reference's BlobsPut over all arguments. Printed by gen_bpw.py. What putting bytes into a store answers. Printed by gen_pbl.py. store.PutBlob: what it answers. Printed by gen_pbl.py. appleloftref.StorePutBlob: what it answers. Printed by gen_pbl.py. store.PutBlob and the reference's StorePutBlob over all arguments. Printed by gen_pbw.py.
-/
import Derived.Test.YtpcnhldlfmdlhaaGreatQxKB
import Derived.Test.YtpcnhldlfmdlhaaGreatQxSrt
import Derived.Test.YtpcnhldlfmdlhaaGreatQxShelf
import Derived.Test.YtpcnhldlfmdlhaaGreatQxBas
import Derived.Test.YtpcnhldlfmdlhaaGreatQxOwE
import Derived.Test.YtpcnhldlfmdlhaaGreatQxShb
import Derived.Test.YtpcnhldlfmdlhaaGreatQxWrt
import Derived.Deep.LoopGhost
import Derived.IntWalk
import Derived.Laws.CopyOwn
import Derived.Lib.AppendZerosOnto
import Derived.Lib.AppendZeros
import Derived.StillTailTactics
import Derived.OwnWalk
import Derived.Handy
namespace Go.Proofs.YtpcnhldlfmdlhaaGreat
open Go.RowKit

end Go.Proofs.YtpcnhldlfmdlhaaGreat

namespace Go.Proofs.YtpcnhldlfmdlhaaGreat
open Go.RowKit

/-- The cells of an owned row. -/
theorem OS.cellsAt {α : Type} {e : TypeId} {s B g n cap : Nat} {cells : α → List Value} {w : World} {l : List α} (h : OS e s cells w B (.slice (some ⟨g, 0, none⟩) n cap) l) : ∀ j u, (l.flatMap cells)[j]? = some u → w.cell? ⟨g, j, none⟩ = some u := by
  intro j u hj
  have hlt := (List.getElem?_eq_some_iff.1 hj).1
  obtain ⟨_, _, hv, -⟩ := OS.len_le h
  simp only [Value.slice.injEq] at hv
  obtain ⟨-, rfl, -⟩ := hv
  have := World.ownsRow.cellAt h j (by have := h.1; omega)
  rw [this, hj]
end Go.Proofs.YtpcnhldlfmdlhaaGreat

namespace Go.Proofs.YtpcnhldlfmdlhaaGreat
open Go.RowKit

end Go.Proofs.YtpcnhldlfmdlhaaGreat

namespace Go.Proofs.YtpcnhldlfmdlhaaGreat
open Go.RowKit

section
variable {z : Int} {d : ByteArray} {data : List UInt8} {l : List Blob}
end
end Go.Proofs.YtpcnhldlfmdlhaaGreat

namespace Go.Proofs.YtpcnhldlfmdlhaaGreat
open Go.RowKit

end Go.Proofs.YtpcnhldlfmdlhaaGreat

namespace Go.Proofs.YtpcnhldlfmdlhaaGreat
open Go.RowKit

end Go.Proofs.YtpcnhldlfmdlhaaGreat

namespace Go.Proofs.YtpcnhldlfmdlhaaGreat
open Go.RowKit

end Go.Proofs.YtpcnhldlfmdlhaaGreat

namespace Go.Proofs.YtpcnhldlfmdlhaaGreat
open Go.RowKit

section
variable {z e r : Int} {L : List Blob}
end
end Go.Proofs.YtpcnhldlfmdlhaaGreat

namespace Go.Proofs.YtpcnhldlfmdlhaaGreat
open Go.RowKit

end Go.Proofs.YtpcnhldlfmdlhaaGreat

namespace Go.Proofs.YtpcnhldlfmdlhaaGreat
open Go.RowKit

end Go.Proofs.YtpcnhldlfmdlhaaGreat

namespace Go.Proofs.YtpcnhldlfmdlhaaGreat
open Go.RowKit

end Go.Proofs.YtpcnhldlfmdlhaaGreat
