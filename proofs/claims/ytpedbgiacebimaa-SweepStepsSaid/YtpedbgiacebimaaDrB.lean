/-
  Drop of a record (Blob): what the program and the reference answer.
-/
import Derived.Test.YtpedbgiacebimaaKB
import Derived.IntWalk
import Derived.Deep.RegionHeld3
import Derived.StillTactics
import Derived.OwnWalk
import Derived.Test.YtpedbgiacebimaaBlb
namespace Go.Proofs.Ytpedbgiacebimaa
open Go.RowKit

/-- What is wrong with dropping what a key has, z being what is wrong with the list. -/
def dropE_B (z : Int) (s : ByteArray) (l : List Blob) : Int :=
  if z ≠ 0 then z else match l[atKey (·.digest) s l]? with | none => 5 | some x => if 0 < x.pins then 10 else 0
def dropL_B (z : Int) (s : ByteArray) (l : List Blob) : List Blob := if dropE_B z s l = 0 then l.take (atKey (·.digest) s l) ++ l.drop (atKey (·.digest) s l + 1) else []
theorem drop_B_len (i : Nat) (l : List Blob) (h : l.length * 56 ≤ 140737488351232) : (l.take i ++ l.drop (i + 1)).length * 56 ≤ 140737488351232 := by
  have : (l.take i ++ l.drop (i + 1)).length ≤ l.length := by rw [List.length_append, List.length_take, List.length_drop]; omega
  omega
theorem drop_B_mem (i : Nat) (l : List Blob) (Q : Blob → Prop) (h : ∀ x ∈ l, Q x) : ∀ x ∈ l.take i ++ l.drop (i + 1), Q x := by
  intro x hx
  rcases List.mem_append.1 hx with hx | hx
  · exact h x (List.mem_of_mem_take hx)
  · exact h x (List.mem_of_mem_drop hx)

def DropPost_B (z : Int) (s : ByteArray) (l : List Blob) (w : World) (e : Ending) (w' : World) : Prop :=
  ∃ v', e = .returned (.tuple #[v', .int .i64 (dropE_B z s l)]) ∧ RBl w' v' (dropL_B z s l) ∧ Below w.heap.size w w'
theorem drop_no_B {z n : Int} {s : ByteArray} {l : List Blob} {w w' : World} (h : dropE_B z s l = n) (hn : n ≠ 0) (hb : Below w.heap.size w w') : DropPost_B z s l w (.returned (.tuple #[.slice none 0 0, .int .i64 n])) w' := by
  refine ⟨_, by rw [h], ?_, hb⟩
  unfold dropL_B
  rw [if_neg (by rw [h]; exact hn)]
  exact RS.nil
theorem drop_ok_B {z : Int} {s : ByteArray} {l L : List Blob} {w w' : World} {v' : Value} (h : dropE_B z s l = 0) (hl : dropL_B z s l = L) (hr : RBl w' v' L) (hb : Below w.heap.size w w') : DropPost_B z s l w (.returned (.tuple #[v', .int .i64 0])) w' :=
  ⟨_, by rw [h], by rw [hl]; exact hr, hb⟩

end Go.Proofs.Ytpedbgiacebimaa
