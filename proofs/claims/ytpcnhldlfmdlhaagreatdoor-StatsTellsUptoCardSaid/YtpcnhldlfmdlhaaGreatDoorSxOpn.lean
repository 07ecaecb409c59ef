/-
  An action as an argument: its reading. A store as an argument: its reading.
-/
import Derived.Test.YtpcnhldlfmdlhaaGreatDoorSxBas
namespace Go.Proofs.YtpcnhldlfmdlhaaGreatDoor
open Go.RowKit Go.Deep Go.ChangeShapes Go.WideShapes

variable {P : Program}
end Go.Proofs.YtpcnhldlfmdlhaaGreatDoor

namespace Go.Proofs.YtpcnhldlfmdlhaaGreatDoor
open Go.RowKit Go.Deep Go.ChangeShapes Go.WideShapes
variable {P : Program}
structure Store where
  blobs : List Blob
  entries : List Entry
  room : Int
  clock : Int
def VStore (w : World) (cs : List Value) (x : Store) : Prop := ∃ bv ev, cs = [bv, ev, .int .i64 x.room, .int .i64 x.clock] ∧ RBl w bv x.blobs ∧ RE w ev x.entries ∧ (Lit.int .i64 x.room).wf = true ∧ (Lit.int .i64 x.clock).wf = true
theorem opens_store {t : TypeId} {f0 f1 f2 f3 : Field} (ht : P.underlying t = some (.struct #[f0, f1, f2, f3]))
    (ho : f0.offset = 0 ∧ f1.offset = 1 ∧ f2.offset = 2 ∧ f3.offset = 3) (hc : P.cellsOf t = 4) (hs : P.cellsOf f0.type = 1 ∧ P.cellsOf f1.type = 1 ∧ P.cellsOf f2.type = 1 ∧ P.cellsOf f3.type = 1)
    (h0 : Opens P f0.type (VSl 4 56 EBlob)) (h1 : Opens P f1.type (VSl 4 56 EEntry)) (h2 : Opens P f2.type VI) (h3 : Opens P f3.type VI) : Opens P t VStore := by
  intro H enc w n cs x h hw
  obtain ⟨c0, c1, c2, c3, y0, y1, y2, y3, n', rfl, g0, g1, g2, g3, w0, w1, w2, w3⟩ := struct4 ht ho hc hs h hw
  obtain ⟨a0, v0, e0, b0⟩ := h0 H enc w n' _ _ g0 w0
  obtain ⟨a1, v1, e1, b1⟩ := h1 H enc w n' _ _ g1 w1
  obtain ⟨a2, e2, b2⟩ := h2 H enc w n' _ _ g2 w2
  obtain ⟨a3, e3, b3⟩ := h3 H enc w n' _ _ g3 w3
  simp only [List.cons.injEq, and_true] at e0 e1 e2 e3
  subst e0 e1 e2 e3
  exact ⟨⟨a0, a1, a2, a3⟩, _, _, rfl, b0, b1, b2, b3⟩
end Go.Proofs.YtpcnhldlfmdlhaaGreatDoor
