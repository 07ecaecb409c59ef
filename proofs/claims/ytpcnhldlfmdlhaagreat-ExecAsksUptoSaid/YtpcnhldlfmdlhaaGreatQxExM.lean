/-
  exec.Put and LoftPut: plain words. Printed by gen_exp.py.
-/
import Derived.Test.YtpcnhldlfmdlhaaGreatQxExL
namespace Go.Proofs.YtpcnhldlfmdlhaaGreat
open Go.RowKit

section
variable {z : Int} {f : Bool} {O : CoOut} {L : List Flight}
end
theorem heap_drewN {w : World} {n k : Nat} {x : Obj} (h : w.heap[k]? = some x) : (w.drewN n).heap[k]? = some x := h
end Go.Proofs.YtpcnhldlfmdlhaaGreat
