/-
  An action as an argument: its reading. A store as an argument: its reading.
-/
import Derived.Test.YtojebioolflbkaaGreatBas
namespace Go.Proofs.YtojebioolflbkaaGreat
open Go.RowKit Go.Deep Go.ChangeShapes Go.WideShapes

structure Action where
  command : ByteArray
  inputs : List Part
variable {P : Program}
def VAction (w : World) (cs : List Value) (x : Action) : Prop := ∃ pv, cs = [.string x.command, pv] ∧ RP w pv x.inputs ∧ x.command.size ≤ 140737488351232
theorem struct2 {H : Type} {enc : TypeId × Value → H} {w : World} {n : Nat} {cs : List Value} {x : DataW H × List MemPlace} {t : TypeId} {f0 f1 : Field} (ht : P.underlying t = some (.struct #[f0, f1]))
    (ho : f0.offset = 0 ∧ f1.offset = 1) (hc : P.cellsOf t = 2) (hs : P.cellsOf f0.type = 1 ∧ P.cellsOf f1.type = 1)
    (h : DataW.trod enc P w 0 (fun _ => true) true n t cs = some x) (hw : ∀ m ∈ x.1.weights P t, m ≤ reachBytes) :
    ∃ c0 c1 y0 y1 n', cs = [c0, c1] ∧ DataW.trod enc P w 0 (fun _ => true) true n' f0.type [c0] = some y0 ∧ DataW.trod enc P w 0 (fun _ => true) true n' f1.type [c1] = some y1 ∧
      (∀ m ∈ y0.1.weights P f0.type, m ≤ reachBytes) ∧ (∀ m ∈ y1.1.weights P f1.type, m ≤ reachBytes) := by
  obtain ⟨xs, n', _, rfl, hl, hlen, hf⟩ := DataW.trod_struct ht h
  obtain ⟨o0, o1⟩ := ho
  obtain ⟨s0, s1⟩ := hs
  rw [hc] at hl
  match xs, hlen, cs, hl with
  | [y0, y1], _, [c0, c1], _ =>
    have g0 := hf 0 f0 rfl
    have g1 := hf 1 f1 rfl
    rw [o0, s0] at g0
    rw [o1, s1] at g1
    have hww : ∀ m, m ∈ DataW.weightsEach P [f0.type, f1.type] [y0.1, y1.1] → m ≤ reachBytes := fun m hm => hw m (by rw [DataW.weights, ht]; exact hm)
    simp only [DataW.weightsEach, List.append_nil, List.mem_append] at hww
    exact ⟨c0, c1, y0, y1, n', rfl, g0, g1, fun m hm => hww m (.inl hm), fun m hm => hww m (.inr hm)⟩

theorem opens_action {t : TypeId} {f0 f1 : Field} (ht : P.underlying t = some (.struct #[f0, f1]))
    (ho : f0.offset = 0 ∧ f1.offset = 1) (hc : P.cellsOf t = 2) (hs : P.cellsOf f0.type = 1 ∧ P.cellsOf f1.type = 1)
    (h0 : Opens P f0.type VStr) (h1 : Opens P f1.type (VSl 3 40 EPart)) : Opens P t VAction := by
  intro H enc w n cs x h hw
  obtain ⟨c0, c1, y0, y1, n', rfl, g0, g1, w0, w1⟩ := struct2 ht ho hc hs h hw
  obtain ⟨a0, e0, b0⟩ := h0 H enc w n' _ _ g0 w0
  obtain ⟨a1, v1, e1, b1⟩ := h1 H enc w n' _ _ g1 w1
  simp only [List.cons.injEq, and_true] at e0 e1
  subst e0 e1
  exact ⟨⟨a0, a1⟩, _, rfl, b1, b0⟩
end Go.Proofs.YtojebioolflbkaaGreat

namespace Go.Proofs.YtojebioolflbkaaGreat
open Go.RowKit Go.Deep Go.ChangeShapes Go.WideShapes
variable {P : Program}
structure Store where
  blobs : List Blob
  entries : List Entry
  room : Int
  clock : Int
def VStore (w : World) (cs : List Value) (x : Store) : Prop := ∃ bv ev, cs = [bv, ev, .int .i64 x.room, .int .i64 x.clock] ∧ RBl w bv x.blobs ∧ RE w ev x.entries ∧ (Lit.int .i64 x.room).wf = true ∧ (Lit.int .i64 x.clock).wf = true
theorem opens_store {t : TypeId} {f0 f1 f2 f3 : Field} (ht : P.underlying t = some (.struct #[f0, f1, f2, f3]))
    (ho : f0.offset = 0 ∧ f1.offset = 1 ∧ f2.offset = 2 ∧ f3.offset = 3) (hc : P.cellsOf t = 4) (hs : P.cellsOf f0.type = 1 ∧ P.cellsOf f1.type = 1 ∧ P.cellsOf f2.type = 1 ∧ P.cellsOf f3.type = 1)
    (h0 : Opens P f0.type (VSl 4 56 EBlob)) (h1 : Opens P f1.type (VSl 4 56 EEntry)) (h2 : Opens P f2.type VI) (h3 : Opens P f3.type VI) : Opens P t VStore := by
  intro H enc w n cs x h hw
  obtain ⟨c0, c1, c2, c3, y0, y1, y2, y3, n', rfl, g0, g1, g2, g3, w0, w1, w2, w3⟩ := struct4 ht ho hc hs h hw
  obtain ⟨a0, v0, e0, b0⟩ := h0 H enc w n' _ _ g0 w0
  obtain ⟨a1, v1, e1, b1⟩ := h1 H enc w n' _ _ g1 w1
  obtain ⟨a2, e2, b2⟩ := h2 H enc w n' _ _ g2 w2
  obtain ⟨a3, e3, b3⟩ := h3 H enc w n' _ _ g3 w3
  simp only [List.cons.injEq, and_true] at e0 e1 e2 e3
  subst e0 e1 e2 e3
  exact ⟨⟨a0, a1, a2, a3⟩, _, _, rfl, b0, b1, b2, b3⟩
end Go.Proofs.YtojebioolflbkaaGreat
