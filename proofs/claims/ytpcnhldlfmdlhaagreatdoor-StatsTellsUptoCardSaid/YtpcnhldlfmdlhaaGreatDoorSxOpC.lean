/-
  A collector as an argument.
-/
import Derived.Test.YtpcnhldlfmdlhaaGreatDoorSxOpn
import Derived.Test.YtpcnhldlfmdlhaaGreatDoorSxCl
namespace Go.Proofs.YtpcnhldlfmdlhaaGreatDoor
open Go.RowKit Go.Deep Go.ChangeShapes Go.WideShapes

structure Coll where
  phase : Int
  grey : List ByteArray
  place : ByteArray
def VColl (w : World) (cs : List Value) (x : Coll) : Prop := ∃ gv, cs = [.int .i64 x.phase, gv, .string x.place] ∧ RT w gv x.grey ∧ x.place.size ≤ 140737488351232 ∧ (Lit.int .i64 x.phase).wf = true
theorem opens_coll {P : Program} {t : TypeId} {f0 f1 f2 : Field} (ht : P.underlying t = some (.struct #[f0, f1, f2]))
    (ho : f0.offset = 0 ∧ f1.offset = 1 ∧ f2.offset = 2) (hc : P.cellsOf t = 3) (hs : P.cellsOf f0.type = 1 ∧ P.cellsOf f1.type = 1 ∧ P.cellsOf f2.type = 1)
    (h0 : Opens P f0.type VI) (h1 : Opens P f1.type (VSl 1 16 EStr)) (h2 : Opens P f2.type VStr) : Opens P t VColl := by
  intro H enc w n cs x h hw
  obtain ⟨y0, y1, y2, n', rfl, hl, g0, g1, g2⟩ := trod_struct3 ht h
  rw [ho.1, hs.1] at g0
  rw [ho.2.1, hs.2.1] at g1
  rw [ho.2.2, hs.2.2] at g2
  rw [hc] at hl
  match cs, hl with
  | [c0, c1, c2], _ =>
    simp only [List.drop_zero, List.drop_succ_cons, List.take_succ_cons, List.take_zero] at g0 g1 g2
    have hww : ∀ m, m ∈ DataW.weightsEach P [f0.type, f1.type, f2.type] [y0.1, y1.1, y2.1] → m ≤ reachBytes := fun m hm => hw m (by rw [DataW.weights, ht]; exact hm)
    simp only [DataW.weightsEach, List.append_nil, List.mem_append] at hww
    obtain ⟨a0, e0, b0⟩ := h0 H enc w n' _ _ g0 (fun m hm => hww m (.inl hm))
    obtain ⟨a1, v1, e1, b1⟩ := h1 H enc w n' _ _ g1 (fun m hm => hww m (.inr (.inl hm)))
    obtain ⟨a2, e2, b2⟩ := h2 H enc w n' _ _ g2 (fun m hm => hww m (.inr (.inr hm)))
    simp only [List.cons.injEq, and_true] at e0 e1 e2
    subst e0 e1 e2
    exact ⟨⟨a0, a1, a2⟩, _, rfl, b1, b2, b0⟩
end Go.Proofs.YtpcnhldlfmdlhaaGreatDoor

namespace Go.Proofs.YtpcnhldlfmdlhaaGreatDoor
open Go.RowKit

end Go.Proofs.YtpcnhldlfmdlhaaGreatDoor
