/-
  store.HoldBlob, store.Hold and the reference's StoreHoldBlob, StoreHold: what each answers. Printed by gen_hld.py.
-/
import Derived.Test.YtcbopanekmpllaaStC
import Derived.Test.YtcbopanekmpllaaPin
namespace Go.Proofs.Ytcbopanekmpllaa
open Go.RowKit

/-- What is wrong with holding what a key has, z being what is wrong with the store. -/
def holdE {α : Type} (key : α → ByteArray) (pins : α → Int) (z : Int) (s : ByteArray) (up : Bool) (l : List α) : Int := if z ≠ 0 then z else match l[atKey key s l]? with | none => 5 | some x => (pinMove (pins x) up).2
def heldB (s : ByteArray) (up : Bool) (l : List Blob) : List Blob := match l[atKey (·.digest) s l]? with | none => l | some x => l.set (atKey (·.digest) s l) { x with pins := (pinMove x.pins up).1 }
def heldE (s : ByteArray) (up : Bool) (l : List Entry) : List Entry := match l[atKey (·.key) s l]? with | none => l | some x => l.set (atKey (·.key) s l) { x with pins := (pinMove x.pins up).1 }
theorem holdE_bad {α : Type} {key : α → ByteArray} {pins : α → Int} {z : Int} {s : ByteArray} {up : Bool} {l : List α} (h : z ≠ 0) : holdE key pins z s up l = z := if_pos h
theorem holdE_none {α : Type} {key : α → ByteArray} {pins : α → Int} {s : ByteArray} {up : Bool} {l : List α} (h : atKey key s l = l.length) : holdE key pins 0 s up l = 5 := by
  unfold holdE
  rw [if_neg (by simp), List.getElem?_eq_none (by omega)]
theorem holdE_some {α : Type} {key : α → ByteArray} {pins : α → Int} {s : ByteArray} {up : Bool} {l : List α} {x : α} (h : l[atKey key s l]? = some x) : holdE key pins 0 s up l = (pinMove (pins x) up).2 := by
  unfold holdE
  rw [if_neg (by simp), h]
theorem heldB_some {s : ByteArray} {up : Bool} {l : List Blob} {x : Blob} (h : l[atKey (·.digest) s l]? = some x) : heldB s up l = l.set (atKey (·.digest) s l) { x with pins := (pinMove x.pins up).1 } := by unfold heldB; rw [h]
theorem heldE_some {s : ByteArray} {up : Bool} {l : List Entry} {x : Entry} (h : l[atKey (·.key) s l]? = some x) : heldE s up l = l.set (atKey (·.key) s l) { x with pins := (pinMove x.pins up).1 } := by unfold heldE; rw [h]
end Go.Proofs.Ytcbopanekmpllaa
