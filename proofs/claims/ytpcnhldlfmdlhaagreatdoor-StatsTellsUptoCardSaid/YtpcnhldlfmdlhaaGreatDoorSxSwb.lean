/-
  sweep.Next and the reference's SweepNext: what each answers. slices.Delete on a full row of blobs: besides, no other block turns. The outcome of a step of the sweep. A collector's box in memory.
-/
import Derived.Test.YtpcnhldlfmdlhaaGreatDoorSxKB
import Derived.Test.YtpcnhldlfmdlhaaGreatDoorSxMnf
import Derived.Test.YtpcnhldlfmdlhaaGreatDoorSxStF
import Derived.StillTailTactics
namespace Go.Proofs.YtpcnhldlfmdlhaaGreatDoor
open Go.RowKit

end Go.Proofs.YtpcnhldlfmdlhaaGreatDoor

namespace Go.Proofs.YtpcnhldlfmdlhaaGreatDoor
open Go.RowKit

end Go.Proofs.YtpcnhldlfmdlhaaGreatDoor

namespace Go.Proofs.YtpcnhldlfmdlhaaGreatDoor
open Go.RowKit

section
variable {z f ph r t : Int} {i : Nat} {bs : List Blob} {es : List Entry} {x : Blob}
end
/-- A block that holds a collector. -/
def CBox (w : World) (p : Nat) : Prop := ∃ k a n c s T, w.heap[p]? = some (.cells #[.int .i64 k, .slice a n c, .string s] T (0, 0))
theorem CBox.str {w : World} {p b o : Nat} {s : ByteArray} {v : Value} (h : CBox w p) (hc : w.cell? ⟨b, o, none⟩ = some (.string s)) (hd : w.cell? ⟨b, o + 1, none⟩ = some v) : b ≠ p := by
  rintro rfl
  obtain ⟨k, a, n, c, s', T, hp⟩ := h
  rw [cell_of_row _ _ _ _ _ _ hp] at hc hd
  rcases o with _ | _ | _ | o
  · simp at hc
  · simp at hc
  · simp at hd
  · simp at hc
theorem CBox.u8 {w : World} {p b o : Nat} {k : Int} (h : CBox w p) (hc : w.cell? ⟨b, o, none⟩ = some (.int .u8 k)) : b ≠ p := by
  rintro rfl
  obtain ⟨k, a, n, c, s', T, hp⟩ := h
  rw [cell_of_row _ _ _ _ _ _ hp] at hc
  rcases o with _ | _ | _ | o <;> simp at hc
section
variable {w : World} {p q : Nat} {u : Value}
end
def World.box3 (w : World) (q : Nat) (u0 u1 u2 : Value) : World := ((w.setCell ⟨q, 0, none⟩ u0).setCell ⟨q, 1, none⟩ u1).setCell ⟨q, 2, none⟩ u2
theorem box3_0 {w : World} {q : Nat} {a b c u : Value} {T : TypeId} (h : w.heap[q]? = some (.cells #[a, b, c] T (0, 0))) : (w.setCell ⟨q, 0, none⟩ u).heap[q]? = some (.cells #[u, b, c] T (0, 0)) := by
  simp [World.setCell, Array.getElem?_modify, h]
theorem box3_1 {w : World} {q : Nat} {a b c u : Value} {T : TypeId} (h : w.heap[q]? = some (.cells #[a, b, c] T (0, 0))) : (w.setCell ⟨q, 1, none⟩ u).heap[q]? = some (.cells #[a, u, c] T (0, 0)) := by
  simp [World.setCell, Array.getElem?_modify, h]
theorem box3_2 {w : World} {q : Nat} {a b c u : Value} {T : TypeId} (h : w.heap[q]? = some (.cells #[a, b, c] T (0, 0))) : (w.setCell ⟨q, 2, none⟩ u).heap[q]? = some (.cells #[a, b, u] T (0, 0)) := by
  simp [World.setCell, Array.getElem?_modify, h]
theorem RS.box3 {α : Type} {s bs p : Nat} {E : World → Nat → Nat → α → Prop} {w : World} {v : Value} {l : List α} (hE : ∀ (w : World) (p q : Nat) (u : Value), CBox w p → ∀ b o x, E w b o x → E (w.setCell ⟨p, q, none⟩ u) b o x)
    (h : RS s bs E w v l) {T : TypeId} (hp : ∃ k a n c s', w.heap[p]? = some (.cells #[.int .i64 k, .slice a n c, .string s'] T (0, 0))) (k : Int) (a : Option Addr) (n c : Nat) (s' : ByteArray) :
    RS s bs E (World.box3 w p (.int .i64 k) (.slice a n c) (.string s')) v l := by
  obtain ⟨b0, b1, b2, b3, b4, hp⟩ := hp
  have p0 := box3_0 (u := .int .i64 k) hp
  have p1 := box3_1 (u := .slice a n c) p0
  exact ((h.write (hE _ _ _ _ ⟨_, _, _, _, _, _, hp⟩)).write (hE _ _ _ _ ⟨_, _, _, _, _, _, p0⟩)).write (hE _ _ _ _ ⟨_, _, _, _, _, _, p1⟩)
theorem OEntry.grown {w w' : World} {B g : Nat} {v : Value} {es : List Entry} {cs : Array Value} {T : TypeId} {fr : Nat × Nat} (h : OEntry w B v es) (hg : w.grownBy w' (some g)) (hq : w.heap[g]? = some (.cells cs T fr)) (hT : T ≠ 57) (hT2 : T ≠ 87) : OEntry w' B v es := by
  obtain ⟨rs, h1, h2, h3⟩ := h
  exact ⟨rs, h1, World.ownsRow.kept (row := some g) h2 hg (Or.inr (OS.block_ne h2 hq hT)), fun r hr => World.ownsRow.kept (row := some g) (h3 r hr) hg (Or.inr (OS.block_ne (h3 r hr) hq hT2))⟩
end Go.Proofs.YtpcnhldlfmdlhaaGreatDoor
