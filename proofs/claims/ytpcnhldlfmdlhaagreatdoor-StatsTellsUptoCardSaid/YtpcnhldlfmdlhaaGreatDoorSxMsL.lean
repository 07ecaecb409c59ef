/-
  What a step of a collector that marks answers.
-/
import Derived.Test.YtpcnhldlfmdlhaaGreatDoorSxCnx
import Derived.Test.YtpcnhldlfmdlhaaGreatDoorSxRtx
import Derived.Test.YtpcnhldlfmdlhaaGreatDoorSxSkx
import Derived.OwnWalk
import Derived.Handy
import Derived.IntWalk
import Derived.Deep.RegionHeld3
import Derived.StillTactics
namespace Go.Proofs.YtpcnhldlfmdlhaaGreatDoor
open Go.RowKit

/-- The digests that a blob's parts have. -/
def digsOf (x : Blob) : List ByteArray := (decParts x.data).1.map (·.digest)
theorem digs_small (x : Blob) : (digsOf x).length ≤ 8 ∧ ∀ y ∈ digsOf x, y.size ≤ 140737488351232 := by
  obtain ⟨h1, h2⟩ := decParts_len x.data
  unfold digsOf
  refine ⟨by rw [List.length_map]; exact h1, fun y hy => ?_⟩
  obtain ⟨p, hp, rfl⟩ := List.mem_map.1 hy
  exact h2 p hp
/-- Every block of another kind than a blob's stays. -/
def KT (w w' : World) : Prop := ∀ (p : Nat) (cs : Array Value) (T : TypeId) (fr : Nat × Nat), w.heap[p]? = some (.cells cs T fr) → T ≠ 54 → w'.heap[p]? = some (.cells cs T fr)
theorem KT.of {w w' : World} (h : Below w.heap.size w w') : KT w w' := fun _ _ _ _ hp _ => (h.block _ (heap_lt hp)).trans hp
theorem KT.call {w w1 w' : World} (h : KT w w1) (hb : Below w1.heap.size w1 w') : KT w w' := fun p cs T fr hp hT => KT.of hb p cs T fr (h p cs T fr hp hT) hT
theorem KT.set {w w1 : World} {g o : Nat} {cs : Array Value} {fr : Nat × Nat} {u : Value} (h : KT w w1) (hg : w1.heap[g]? = some (.cells cs 54 fr)) : KT w (w1.setCell ⟨g, o, none⟩ u) := fun _ _ _ _ hp hT =>
  box_other (h _ _ _ _ hp hT) (ne_type hg (h _ _ _ _ hp hT) (fun e => hT e.symm))
theorem KT.new {w w1 : World} {q o : Nat} {u : Value} (h : KT w w1) (hq : w.heap.size ≤ q) : KT w (w1.setCell ⟨q, o, none⟩ u) := fun _ _ _ _ hp hT =>
  box_other (h _ _ _ _ hp hT) (by have := heap_lt hp; omega)
theorem KT.box4 {w w1 : World} {q : Nat} (h : KT w w1) (hq : w.heap.size ≤ q) (u0 u1 u2 u3 : Value) : KT w (World.box4 w1 q u0 u1 u2 u3) := (((h.new hq).new hq).new hq).new hq
theorem KT.box3 {w w1 : World} {q : Nat} (h : KT w w1) (hq : w.heap.size ≤ q) (u0 u1 u2 : Value) : KT w (World.box3 w1 q u0 u1 u2) := ((h.new hq).new hq).new hq
theorem reach_PartsD (x : Blob) (dv : Value) (w : World) (h : RB w dv x.data) :
    Calls Tryz.prog 28 #[.agg #[.string x.digest, dv, .int .i64 x.pins, .bool x.mark]] w fun e w' => ∃ v', e = .returned v' ∧ OS 9 1 cStr w' w.heap.size v' (digsOf x) ∧ Below w.heap.size w w' :=
  reach_Parts' x dv w h (decParts x.data).1 (decParts x.data).2 (fun w g => manifest_Decode dv x.data w g)
theorem ref_PartsInD (x : Blob) (dv : Value) (w : World) (h : RB w dv x.data) :
    Calls Tryz.prog 46 #[.agg #[.string x.digest, dv, .int .i64 x.pins, .bool x.mark]] w fun e w' => ∃ v', e = .returned v' ∧ OS 9 1 cStr w' w.heap.size v' (digsOf x) ∧ Below w.heap.size w w' :=
  ref_PartsIn' x dv w h (decParts x.data).1 (decParts x.data).2 (fun w g => ref_PartsOf dv x.data w g)
end Go.Proofs.YtpcnhldlfmdlhaaGreatDoor
