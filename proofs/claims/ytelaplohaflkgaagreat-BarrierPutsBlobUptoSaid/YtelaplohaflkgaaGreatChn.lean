/-
  Small steps by which facts on boxes, readings and growth are carried back through a world that a region of no fixed order has made.
-/
import Derived.Test.YtelaplohaflkgaaGreatMsL
import Derived.Test.YtelaplohaflkgaaGreatStC
import Derived.Test.YtelaplohaflkgaaGreatWrt
namespace Go.Proofs.YtelaplohaflkgaaGreat
open Go.RowKit

theorem by_fact {P Q : Prop} (h : P) (k : P → Q) : Q := k h
theorem alloc_keep {w : World} {k : Nat} {x o : Obj} (h : w.heap[k]? = some x) : (w.alloc o).heap[k]? = some x := (heap_alloc_old w o (heap_lt h)).trans h
theorem SBox.of {w : World} {p : Nat} {a : Option Addr} {n c : Nat} {a' : Option Addr} {n' c' : Nat} {r t : Int} {T : TypeId} (h : w.heap[p]? = some (.cells #[.slice a n c, .slice a' n' c', .int .i64 r, .int .i64 t] T (0, 0))) : SBox w p := ⟨_, _, _, _, _, _, _, _, _, h⟩
theorem CBox.of {w : World} {p : Nat} {k : Int} {a : Option Addr} {n c : Nat} {s : ByteArray} {T : TypeId} (h : w.heap[p]? = some (.cells #[.int .i64 k, .slice a n c, .string s] T (0, 0))) : CBox w p := ⟨_, _, _, _, _, _, h⟩
theorem SBox.far {w : World} {p q o : Nat} {u : Value} (h : SBox w p) (hn : p ≠ q) : SBox (w.setCell ⟨q, o, none⟩ u) p := by
  obtain ⟨_, _, _, _, _, _, _, _, _, h⟩ := h
  exact .of (box_other h hn)
theorem CBox.far {w : World} {p q o : Nat} {u : Value} (h : CBox w p) (hn : p ≠ q) : CBox (w.setCell ⟨q, o, none⟩ u) p := by
  obtain ⟨_, _, _, _, _, _, h⟩ := h
  exact .of (box_other h hn)
theorem RS.al {α : Type} {s bs : Nat} {E : World → Nat → Nat → α → Prop} {w : World} {v : Value} {l : List α} (hE : Stable E) (h : RS s bs E w v l) (o : Obj) : RS s bs E (w.alloc o) v l := h.mono hE (b_alloc (Below.refl _ _) o)
theorem OS.atS {w : World} {B q o : Nat} {v u a b c d : Value} {l : List ByteArray} (h : OS 9 1 cStr w B v l) (hq : w.heap[q]? = some (.cells #[a, b, c, d] 25 (0, 0))) : OS 9 1 cStr (w.setCell ⟨q, o, none⟩ u) B v l := OS.other h hq (by decide)
theorem OS.atC {w : World} {B q o : Nat} {v u a b c : Value} {l : List ByteArray} (h : OS 9 1 cStr w B v l) (hq : w.heap[q]? = some (.cells #[a, b, c] 28 (0, 0))) : OS 9 1 cStr (w.setCell ⟨q, o, none⟩ u) B v l := OS.other h hq (by decide)
theorem KT.at {w w' : World} (h : KT w w') {p : Nat} {cs : Array Value} {T : TypeId} {fr : Nat × Nat} (hT : T ≠ 82) (hp : w.heap[p]? = some (.cells cs T fr)) : w'.heap[p]? = some (.cells cs T fr) := h p cs T fr hp hT
end Go.Proofs.YtelaplohaflkgaaGreat
