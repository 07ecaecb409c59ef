/-
  Blobs marked: what is marked of blobs; a mark set in an owned row. mark.All: what it answers. Printed by gen_mk.py. The reference's MarkedAll: what it answers. Printed by gen_mk.py.
-/
import Derived.Test.YtpcnhldlfmdlhaaGreatDoorSxSkx
import Derived.Test.YtpcnhldlfmdlhaaGreatDoorSxOwE
namespace Go.Proofs.YtpcnhldlfmdlhaaGreatDoor
open Go.RowKit

theorem OBlob.mark {w : World} {B g n cap i : Nat} {bs : List Blob} {x : Blob} (m : Bool) (h : OBlob w B (.slice (some ⟨g, 0, none⟩) n cap) bs) (hx : bs[i]? = some x) :
    OBlob (w.setCell ⟨g, i * 4 + 3, none⟩ (.bool m)) B (.slice (some ⟨g, 0, none⟩) n cap) (bs.set i { x with mark := m }) :=
  OX.put h (by decide) xcBlob_len hx (by decide) rfl (fun _ => rfl)
/-- What a blob is besides its mark. -/
def bare (x : Blob) : ByteArray × List UInt8 × Int := (x.digest, x.data, x.pins)
/-- The same blobs, but for their marks. -/
def Alike (l m : List Blob) : Prop := m.map bare = l.map bare
theorem Alike.refl (l : List Blob) : Alike l l := rfl
theorem Alike.len {l m : List Blob} (h : Alike l m) : m.length = l.length := by
  have := congrArg List.length h
  simpa using this
theorem Alike.set {l m : List Blob} (h : Alike l m) {i : Nat} {x : Blob} (hx : m[i]? = some x) (b : Bool) : Alike l (m.set i { x with mark := b }) := by
  unfold Alike at h ⊢
  rw [List.map_set, ← h]
  have hi := (List.getElem?_eq_some_iff.1 hx).1
  have he := (List.getElem?_eq_some_iff.1 hx).2
  have : bare { x with mark := b } = (m.map bare)[i]'(by simpa using hi) := by rw [List.getElem_map, he]; rfl
  rw [this, List.set_getElem_self]
theorem Alike.at_ (d : ByteArray) : ∀ {l m : List Blob}, Alike l m → atKey (fun x : Blob => x.digest) d m = atKey (fun x : Blob => x.digest) d l
  | [], [], _ => rfl
  | [], y :: m, h => by cases h
  | x :: l, [], h => by cases h
  | x :: l, y :: m, h => by
    unfold Alike at h
    simp only [List.map_cons, List.cons.injEq] at h
    have h1 : y.digest = x.digest := congrArg Prod.fst h.1
    rw [atKey, atKey, h1, Alike.at_ d (l := l) (m := m) h.2]
end Go.Proofs.YtpcnhldlfmdlhaaGreatDoor

namespace Go.Proofs.YtpcnhldlfmdlhaaGreatDoor
open Go.RowKit
end Go.Proofs.YtpcnhldlfmdlhaaGreatDoor

namespace Go.Proofs.YtpcnhldlfmdlhaaGreatDoor
open Go.RowKit

end Go.Proofs.YtpcnhldlfmdlhaaGreatDoor

namespace Go.Proofs.YtpcnhldlfmdlhaaGreatDoor
open Go.RowKit

end Go.Proofs.YtpcnhldlfmdlhaaGreatDoor
