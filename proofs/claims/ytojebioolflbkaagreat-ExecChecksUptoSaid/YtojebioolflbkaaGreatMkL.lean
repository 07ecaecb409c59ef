/-
  Blobs marked: what is marked of blobs; a mark set in an owned row.
-/
import Derived.Test.YtojebioolflbkaaGreatSkw
import Derived.Test.YtojebioolflbkaaGreatSkr
import Derived.Test.YtojebioolflbkaaGreatOwE
namespace Go.Proofs.YtojebioolflbkaaGreat
open Go.RowKit

theorem OBlob.mark {w : World} {B g n cap i : Nat} {bs : List Blob} {x : Blob} (m : Bool) (h : OBlob w B (.slice (some ⟨g, 0, none⟩) n cap) bs) (hx : bs[i]? = some x) :
    OBlob (w.setCell ⟨g, i * 4 + 3, none⟩ (.bool m)) B (.slice (some ⟨g, 0, none⟩) n cap) (bs.set i { x with mark := m }) :=
  OX.put h (by decide) xcBlob_len hx (by decide) rfl (fun _ => rfl)
/-- What a blob is besides its mark. -/
def bare (x : Blob) : ByteArray × List UInt8 × Int := (x.digest, x.data, x.pins)
/-- The same blobs, but for their marks. -/
def Alike (l m : List Blob) : Prop := m.map bare = l.map bare
theorem Alike.refl (l : List Blob) : Alike l l := rfl
theorem Alike.len {l m : List Blob} (h : Alike l m) : m.length = l.length := by
  have := congrArg List.length h
  simpa using this
theorem Alike.set {l m : List Blob} (h : Alike l m) {i : Nat} {x : Blob} (hx : m[i]? = some x) (b : Bool) : Alike l (m.set i { x with mark := b }) := by
  unfold Alike at h ⊢
  rw [List.map_set, ← h]
  have hi := (List.getElem?_eq_some_iff.1 hx).1
  have he := (List.getElem?_eq_some_iff.1 hx).2
  have : bare { x with mark := b } = (m.map bare)[i]'(by simpa using hi) := by rw [List.getElem_map, he]; rfl
  rw [this, List.set_getElem_self]
theorem Alike.at_ (d : ByteArray) : ∀ {l m : List Blob}, Alike l m → atKey (fun x : Blob => x.digest) d m = atKey (fun x : Blob => x.digest) d l
  | [], [], _ => rfl
  | [], y :: m, h => by cases h
  | x :: l, [], h => by cases h
  | x :: l, y :: m, h => by
    unfold Alike at h
    simp only [List.map_cons, List.cons.injEq] at h
    have h1 : y.digest = x.digest := congrArg Prod.fst h.1
    rw [atKey, atKey, h1, Alike.at_ d (l := l) (m := m) h.2]
theorem Alike.fit {l m : List Blob} (h : Alike l m) (hf : ∀ x ∈ l, FitBlob x) : ∀ x ∈ m, FitBlob x := fun x hx => by
  have h1 : bare x ∈ l.map bare := by rw [← h]; exact List.mem_map_of_mem hx
  obtain ⟨y, hy, he⟩ := List.mem_map.1 h1
  have hfy := hf y hy
  unfold bare at he
  simp only [Prod.mk.injEq] at he
  obtain ⟨e1, e2, e3⟩ := he
  obtain ⟨⟨f1, f2⟩, f3⟩ := hfy
  exact ⟨⟨e1 ▸ f1, e3 ▸ f2⟩, e2 ▸ f3⟩
/-- The blob of a digest marked. -/
def markAt (l m : List Blob) (d : ByteArray) : List Blob := match m[atKey (fun x : Blob => x.digest) d l]? with | some x => m.set (atKey (fun x : Blob => x.digest) d l) { x with mark := true } | none => m
def marked (l : List Blob) (L : List ByteArray) : List Blob := L.foldl (markAt l) l
theorem markAt_some {l m : List Blob} {d : ByteArray} {x : Blob} (h : m[atKey (fun x : Blob => x.digest) d l]? = some x) : markAt l m d = m.set (atKey (fun x : Blob => x.digest) d l) { x with mark := true } := by
  unfold markAt; rw [h]
theorem marked_next {l : List Blob} {L : List ByteArray} {j : Nat} {d : ByteArray} (h : L.take (j + 1) = L.take j ++ [d]) : marked l (L.take (j + 1)) = markAt l (marked l (L.take j)) d := by
  unfold marked
  rw [h, List.foldl_append]
  rfl
end Go.Proofs.YtojebioolflbkaaGreat

namespace Go.Proofs.YtojebioolflbkaaGreat
open Go.RowKit
theorem obt {w : World} {B g cap n : Nat} {v : Value} {bs : List Blob} (h : OBlob w B v bs) (hv : v = .slice (some ⟨g, 0, none⟩) n cap) : ∃ cs T fr, w.heap[g]? = some (.cells cs T fr) ∧ T = 61 := by
  obtain ⟨rs, -, ho, -⟩ := h
  subst hv
  obtain ⟨cur, hcur⟩ := OS.owns ho
  exact ⟨_, _, _, hcur, rfl⟩
end Go.Proofs.YtojebioolflbkaaGreat
