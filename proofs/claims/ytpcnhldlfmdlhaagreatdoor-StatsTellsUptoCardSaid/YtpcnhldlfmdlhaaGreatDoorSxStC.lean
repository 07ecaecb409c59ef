/-
  store.Copy: what it answers. Printed by gen_sto4.py. The reference's StoreCopy: what it answers; sameStore of alike stores. Printed by gen_sto5.py. Blobs and entries that the call owns: one of a row's numbers set; a cell of another type's block set. Values that read as stores; a box of four cells beside owned rows; where a cell of an owned row's element lies.
-/
import Derived.Test.YtpcnhldlfmdlhaaGreatDoorSxSt
import Derived.Test.YtpcnhldlfmdlhaaGreatDoorSxOwE
import Derived.Test.YtpcnhldlfmdlhaaGreatDoorSxKB
import Derived.Test.YtpcnhldlfmdlhaaGreatDoorSxKE
import Derived.Test.YtpcnhldlfmdlhaaGreatDoorSxBas
import Derived.Test.YtpcnhldlfmdlhaaGreatDoorSxOpn
namespace Go.Proofs.YtpcnhldlfmdlhaaGreatDoor
open Go.RowKit

end Go.Proofs.YtpcnhldlfmdlhaaGreatDoor

namespace Go.Proofs.YtpcnhldlfmdlhaaGreatDoor
open Go.RowKit

end Go.Proofs.YtpcnhldlfmdlhaaGreatDoor

namespace Go.Proofs.YtpcnhldlfmdlhaaGreatDoor
open Go.RowKit

end Go.Proofs.YtpcnhldlfmdlhaaGreatDoor

namespace Go.Proofs.YtpcnhldlfmdlhaaGreatDoor
open Go.RowKit

theorem box4_0 {w : World} {q : Nat} {a b c d u : Value} {T : TypeId} (h : w.heap[q]? = some (.cells #[a, b, c, d] T (0, 0))) : (w.setCell ⟨q, 0, none⟩ u).heap[q]? = some (.cells #[u, b, c, d] T (0, 0)) := by
  simp [World.setCell, Array.getElem?_modify, h]
theorem box4_1 {w : World} {q : Nat} {a b c d u : Value} {T : TypeId} (h : w.heap[q]? = some (.cells #[a, b, c, d] T (0, 0))) : (w.setCell ⟨q, 1, none⟩ u).heap[q]? = some (.cells #[a, u, c, d] T (0, 0)) := by
  simp [World.setCell, Array.getElem?_modify, h]
theorem box4_2 {w : World} {q : Nat} {a b c d u : Value} {T : TypeId} (h : w.heap[q]? = some (.cells #[a, b, c, d] T (0, 0))) : (w.setCell ⟨q, 2, none⟩ u).heap[q]? = some (.cells #[a, b, u, d] T (0, 0)) := by
  simp [World.setCell, Array.getElem?_modify, h]
/-- All four cells of a box set. -/
def World.box4 (w : World) (q : Nat) (u0 u1 u2 u3 : Value) : World := (((w.setCell ⟨q, 0, none⟩ u0).setCell ⟨q, 1, none⟩ u1).setCell ⟨q, 2, none⟩ u2).setCell ⟨q, 3, none⟩ u3
theorem OBlob.box {w : World} {B q : Nat} {v a b c d u0 u1 u2 u3 : Value} {bs : List Blob} {T : TypeId} (h : OBlob w B v bs) (hq : w.heap[q]? = some (.cells #[a, b, c, d] T (0, 0))) (hT : T ≠ 54) (hT2 : T ≠ 5) : OBlob (World.box4 w q u0 u1 u2 u3) B v bs :=
  (((h.other hq hT hT2).other (box4_0 hq) hT hT2).other (box4_1 (box4_0 hq)) hT hT2).other (box4_2 (box4_1 (box4_0 hq))) hT hT2
theorem OEntry.box {w : World} {B q : Nat} {v a b c d u0 u1 u2 u3 : Value} {es : List Entry} {T : TypeId} (h : OEntry w B v es) (hq : w.heap[q]? = some (.cells #[a, b, c, d] T (0, 0))) (hT : T ≠ 57) (hT2 : T ≠ 87) : OEntry (World.box4 w q u0 u1 u2 u3) B v es :=
  (((h.other hq hT hT2).other (box4_0 hq) hT hT2).other (box4_1 (box4_0 hq)) hT hT2).other (box4_2 (box4_1 (box4_0 hq))) hT hT2
end Go.Proofs.YtpcnhldlfmdlhaaGreatDoor
