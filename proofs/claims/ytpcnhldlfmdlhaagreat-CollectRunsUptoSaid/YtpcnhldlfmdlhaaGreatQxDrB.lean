/-
  Drop of a record (Blob): what the program and the reference answer.
-/
import Derived.Test.YtpcnhldlfmdlhaaGreatQxKB
import Derived.IntWalk
import Derived.Deep.RegionHeld3
import Derived.StillTactics
import Derived.OwnWalk
import Derived.Test.YtpcnhldlfmdlhaaGreatQxShb
namespace Go.Proofs.YtpcnhldlfmdlhaaGreat
open Go.RowKit

theorem drop_B_len (i : Nat) (l : List Blob) (h : l.length * 56 ≤ 140737488351232) : (l.take i ++ l.drop (i + 1)).length * 56 ≤ 140737488351232 := by
  have : (l.take i ++ l.drop (i + 1)).length ≤ l.length := by rw [List.length_append, List.length_take, List.length_drop]; omega
  omega
theorem drop_B_mem (i : Nat) (l : List Blob) (Q : Blob → Prop) (h : ∀ x ∈ l, Q x) : ∀ x ∈ l.take i ++ l.drop (i + 1), Q x := by
  intro x hx
  rcases List.mem_append.1 hx with hx | hx
  · exact h x (List.mem_of_mem_take hx)
  · exact h x (List.mem_of_mem_drop hx)

end Go.Proofs.YtpcnhldlfmdlhaaGreat
