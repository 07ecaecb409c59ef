/-
  An order as an argument: its reading.
-/
import Derived.Test.YtaojfpgbpakmpaaOpen
import Derived.Test.YtaojfpgbpakmpaaOrd5
namespace Go.Proofs.Ytaojfpgbpakmpaa
open Go.RowKit Go.Deep Go.ChangeShapes Go.WideShapes
variable {P : Program}
def VOrder (w : World) (cs : List Value) (x : Order) : Prop := ∃ dv pv, cs = [.int .i64 x.kind, .int .i64 x.n, .string x.digest, dv, pv] ∧ RB w dv x.data ∧ RP w pv x.parts ∧ x.digest.size ≤ 140737488351232 ∧ (Lit.int .i64 x.kind).wf = true ∧ (Lit.int .i64 x.n).wf = true
theorem struct5 {H : Type} {enc : TypeId × Value → H} {w : World} {n : Nat} {cs : List Value} {x : DataW H × List MemPlace} {t : TypeId} {f0 f1 f2 f3 f4 : Field} (ht : P.underlying t = some (.struct #[f0, f1, f2, f3, f4]))
    (ho : f0.offset = 0 ∧ f1.offset = 1 ∧ f2.offset = 2 ∧ f3.offset = 3 ∧ f4.offset = 4) (hc : P.cellsOf t = 5) (hs : P.cellsOf f0.type = 1 ∧ P.cellsOf f1.type = 1 ∧ P.cellsOf f2.type = 1 ∧ P.cellsOf f3.type = 1 ∧ P.cellsOf f4.type = 1)
    (h : DataW.trod enc P w 0 (fun _ => true) true n t cs = some x) (hw : ∀ m ∈ x.1.weights P t, m ≤ reachBytes) :
    ∃ c0 c1 c2 c3 c4 y0 y1 y2 y3 y4 n', cs = [c0, c1, c2, c3, c4] ∧ DataW.trod enc P w 0 (fun _ => true) true n' f0.type [c0] = some y0 ∧ DataW.trod enc P w 0 (fun _ => true) true n' f1.type [c1] = some y1 ∧
      DataW.trod enc P w 0 (fun _ => true) true n' f2.type [c2] = some y2 ∧ DataW.trod enc P w 0 (fun _ => true) true n' f3.type [c3] = some y3 ∧ DataW.trod enc P w 0 (fun _ => true) true n' f4.type [c4] = some y4 ∧
      (∀ m ∈ y0.1.weights P f0.type, m ≤ reachBytes) ∧ (∀ m ∈ y1.1.weights P f1.type, m ≤ reachBytes) ∧ (∀ m ∈ y2.1.weights P f2.type, m ≤ reachBytes) ∧ (∀ m ∈ y3.1.weights P f3.type, m ≤ reachBytes) ∧ (∀ m ∈ y4.1.weights P f4.type, m ≤ reachBytes) := by
  obtain ⟨xs, n', _, rfl, hl, hlen, hf⟩ := DataW.trod_struct ht h
  obtain ⟨o0, o1, o2, o3, o4⟩ := ho
  obtain ⟨s0, s1, s2, s3, s4⟩ := hs
  rw [hc] at hl
  match xs, hlen, cs, hl with
  | [y0, y1, y2, y3, y4], _, [c0, c1, c2, c3, c4], _ =>
    have g0 := hf 0 f0 rfl
    have g1 := hf 1 f1 rfl
    have g2 := hf 2 f2 rfl
    have g3 := hf 3 f3 rfl
    have g4 := hf 4 f4 rfl
    rw [o0, s0] at g0
    rw [o1, s1] at g1
    rw [o2, s2] at g2
    rw [o3, s3] at g3
    rw [o4, s4] at g4
    have hww : ∀ m, m ∈ DataW.weightsEach P [f0.type, f1.type, f2.type, f3.type, f4.type] [y0.1, y1.1, y2.1, y3.1, y4.1] → m ≤ reachBytes := fun m hm => hw m (by rw [DataW.weights, ht]; exact hm)
    simp only [DataW.weightsEach, List.append_nil, List.mem_append] at hww
    exact ⟨c0, c1, c2, c3, c4, y0, y1, y2, y3, y4, n', rfl, g0, g1, g2, g3, g4, fun m hm => hww m (.inl hm), fun m hm => hww m (.inr (.inl hm)), fun m hm => hww m (.inr (.inr (.inl hm))), fun m hm => hww m (.inr (.inr (.inr (.inl hm)))), fun m hm => hww m (.inr (.inr (.inr (.inr hm))))⟩
theorem opens_order {t : TypeId} {f0 f1 f2 f3 f4 : Field} (ht : P.underlying t = some (.struct #[f0, f1, f2, f3, f4]))
    (ho : f0.offset = 0 ∧ f1.offset = 1 ∧ f2.offset = 2 ∧ f3.offset = 3 ∧ f4.offset = 4) (hc : P.cellsOf t = 5) (hs : P.cellsOf f0.type = 1 ∧ P.cellsOf f1.type = 1 ∧ P.cellsOf f2.type = 1 ∧ P.cellsOf f3.type = 1 ∧ P.cellsOf f4.type = 1)
    (h0 : Opens P f0.type VI) (h1 : Opens P f1.type VI) (h2 : Opens P f2.type VStr) (h3 : Opens P f3.type (VSl 1 1 EU8)) (h4 : Opens P f4.type (VSl 3 40 EPart)) : Opens P t VOrder := by
  intro H enc w n cs x h hw
  obtain ⟨c0, c1, c2, c3, c4, y0, y1, y2, y3, y4, n', rfl, g0, g1, g2, g3, g4, w0, w1, w2, w3, w4⟩ := struct5 ht ho hc hs h hw
  obtain ⟨a0, e0, b0⟩ := h0 H enc w n' _ _ g0 w0
  obtain ⟨a1, e1, b1⟩ := h1 H enc w n' _ _ g1 w1
  obtain ⟨a2, e2, b2⟩ := h2 H enc w n' _ _ g2 w2
  obtain ⟨a3, v3, e3, b3⟩ := h3 H enc w n' _ _ g3 w3
  obtain ⟨a4, v4, e4, b4⟩ := h4 H enc w n' _ _ g4 w4
  simp only [List.cons.injEq, and_true] at e0 e1 e2 e3 e4
  subst e0 e1 e2 e3 e4
  exact ⟨⟨a0, a1, a2, a3, a4⟩, _, _, rfl, b3, b4, b2, b0, b1⟩
end Go.Proofs.Ytaojfpgbpakmpaa
